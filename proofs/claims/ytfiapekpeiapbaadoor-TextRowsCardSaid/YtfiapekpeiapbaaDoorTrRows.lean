import Derived.Test.YtfiapekpeiapbaaDoorTrHv
import Derived.Test.YtfiapekpeiapbaaDoorTx
import Derived.Test.YtfiapekpeiapbaaDoorTrx3
/-! TextRows, in plain Lean. -/
namespace Go.Proofs.YtfiapekpeiapbaaDoor.Tr
open Go.RowKit Go.Proofs.YtfiapekpeiapbaaDoor.Q Go.Proofs.YtfiapekpeiapbaaDoor.F Go.Lib
open Go.Proofs.YtfiapekpeiapbaaDoorW.PrintWords Go.Proofs.YtfiapekpeiapbaaDoorW.PrintLast Go.Proofs.YtfiapekpeiapbaaDoorW.PrintMore

theorem num_f (a : Int) : quilllaw1_num.f a = some a := rfl
theorem bt_get (s : ByteArray) (i : Nat) (h : i < s.size) : bt s (i : Int) = ((s.data.toList.getD i 0).toNat : Int) := by
  unfold bt
  rw [dif_pos (by simpa using h)]
  simp [h]
  rfl
theorem inc (i : Nat) (h : i ≤ 9223372036854775806) : wrap64 ((i : Int) + 1) = ((i + 1 : Nat) : Int) := by
  rw [w64] <;> omega
theorem byte_eq {b : UInt8} {n : Nat} (hn : n < 256) : ((b.toNat : Int) = (n : Int)) ↔ b = UInt8.ofNat n := by
  constructor
  · intro h
    apply UInt8.toNat_inj.1
    rw [UInt8.toNat_ofNat']
    omega
  · rintro rfl
    rw [UInt8.toNat_ofNat']
    omega
theorem drop_cons (s : ByteArray) (i : Nat) (h : i < s.size) : s.data.toList.drop i = s.data.toList.getD i 0 :: s.data.toList.drop (i + 1) := by
  have h' : i < s.data.toList.length := by simpa using h
  rw [List.drop_eq_getElem_cons h', List.getD_eq_getElem?_getD, List.getElem?_eq_getElem h']
  rfl
theorem ext_mk (s : ByteArray) (a b : Nat) : s.extract a b = mkB ((s.data.toList.drop a).take (b - a)) := by
  apply ByteArray.ext
  apply Array.ext'
  show (s.extract a b).data.toList = _
  rw [ByteArray.data_extract, Array.toList_extract, List.extract_eq_take_drop]
  rfl
/-- The rows behind a piece. -/
def rest (p l : List UInt8) : List ByteArray := ((rowsL l).modifyHead (p ++ ·)).map mkB
theorem rest_nil (p : List UInt8) : rest p [] = [mkB p] := by simp [rest, rowsL]
theorem rest_row (p l : List UInt8) : rest p (10 :: l) = mkB p :: rest [] l := by
  obtain ⟨r, rs, hr⟩ := rowsL_cons l
  simp [rest, rowsL, hr]
theorem rest_cons (p l : List UInt8) {c : UInt8} (h : c ≠ 10) : rest p (c :: l) = rest (p ++ [c]) l := by
  obtain ⟨r, rs, hr⟩ := rowsL_cons l
  simp [rest, rowsL, hr, h]
theorem rest_len (p l : List UInt8) : (rest p l).length ≤ l.length + 1 := by
  have := rowsL_len l
  simp [rest, this]
theorem rest_all (s : ByteArray) : rest [] s.data.toList = rowsOf s := by
  obtain ⟨r, rs, hr⟩ := rowsL_cons s.data.toList
  simp [rest, rowsOf, hr]
theorem refRows_loop (s : ByteArray) (h4 : s.size ≤ 4000) : ∀ (n i f : Nat) (acc : List ByteArray), s.size - i = n → i ≤ s.size → f ≤ i → acc.length ≤ i →
    Evt (fun k => quillref1_Rows.l0 k s acc f i) (acc ++ rest ((s.data.toList.drop f).take (i - f)) (s.data.toList.drop i)) := by
  intro n
  induction n with
  | zero =>
    intro i f acc hn hi hf ha
    obtain rfl : i = s.size := by omega
    refine Evt.step (Evt.const rfl) (fun k => ?_)
    rw [quillref1_Rows.l0, if_neg (by omega), if_pos (by omega), if_pos (by omega), if_pos (by omega), show s.data.toList.drop s.size = [] from List.drop_eq_nil_of_le (by simp), rest_nil, ext_mk]
    simp
  | succ n ih =>
    intro i f acc hn hi hf ha
    have hlt : i < s.size := by omega
    have hw := inc i (by omega)
    have hc := drop_cons s i hlt
    by_cases hb : s.data.toList.getD i 0 = 10
    · have hb' : bt s (i : Int) = 10 := by rw [bt_get s i hlt, hb]; rfl
      have hx : s.extract ((f : Int)).toNat ((i : Int)).toNat = mkB ((s.data.toList.drop f).take (i - f)) := by rw [ext_mk]; simp
      have h := ih (i + 1) (i + 1) (acc ++ [mkB ((s.data.toList.drop f).take (i - f))]) (by omega) (by omega) (by omega) (by simp; omega)
      rw [hc, hb, rest_row]
      rw [Nat.sub_self, List.take_zero, List.append_assoc, List.singleton_append] at h
      refine Evt.step h (fun k => ?_)
      rw [quillref1_Rows.l0, if_pos (by omega), if_pos (by omega), if_pos hb', if_pos (by omega), if_pos (by omega), if_pos (by omega), if_pos (by omega), hw, hx]
    · have hb' : ¬ bt s (i : Int) = 10 := by rw [bt_get s i hlt]; exact fun h => hb ((byte_eq (n := 10) (by decide)).1 h)
      have h := ih (i + 1) f acc (by omega) (by omega) (by omega) (by omega)
      have e : (s.data.toList.drop f).take (i + 1 - f) = (s.data.toList.drop f).take (i - f) ++ [s.data.toList.getD i 0] := by
        have hlt' : i - f < (s.data.toList.drop f).length := by simp; omega
        rw [show i + 1 - f = (i - f) + 1 by omega, List.take_succ_eq_append_getElem hlt']
        congr 2
        have hi' : i < s.data.toList.length := by simpa using hlt
        rw [List.getElem_drop, List.getD_eq_getElem?_getD]
        simp only [show f + (i - f) = i by omega, List.getElem?_eq_getElem hi', Option.getD_some]
      rw [hc, rest_cons _ _ hb, ← e]
      refine Evt.step h (fun k => ?_)
      rw [quillref1_Rows.l0, if_pos (by omega), if_pos (by omega), if_neg hb', hw]
theorem refRows (s : ByteArray) (h4 : s.size ≤ 4000) : Evt (fun k => quillref1_Rows.f k s) (rowsOf s) := by
  have h := refRows_loop s h4 s.size 0 0 [] rfl (by omega) (by omega) (by simp)
  simp only [List.drop_zero, Nat.sub_self, List.take_zero, List.nil_append, rest_all] at h
  exact h
theorem eqs_l0 (l : List ByteArray) (hl : l.length ≤ 140737488355328) : ∀ (d i : Nat), l.length - i = d → i ≤ l.length → Evt (fun k => quillref0_EqStrings.l0 k l l i) true := by
  intro d
  induction d with
  | zero =>
    intro i hd hi
    refine Evt.step (Evt.const rfl) (fun k => ?_)
    rw [quillref0_EqStrings.l0, if_neg (by omega)]
  | succ d ih =>
    intro i hd hi
    have hlt : (i : Int) < (l.length : Int) := by omega
    have hw := inc i (by omega)
    refine Evt.step (ih (i + 1) (by omega) (by omega)) (fun k => ?_)
    rw [quillref0_EqStrings.l0, if_pos hlt, if_pos (by omega), if_pos hlt, if_pos rfl, hw]
theorem eqs_self (l : List ByteArray) (hl : l.length ≤ 140737488355328) : Evt (fun k => quillref0_EqStrings.f k l l) true := by
  refine (eqs_l0 l hl l.length 0 rfl (by omega)).same (fun k => ?_)
  rw [quillref0_EqStrings.f, if_pos (Eq.refl (l.length : Int))]
  rfl
theorem spoil_l0 : ∀ (d i : Nat) (l : List ByteArray), l.length ≤ 100000 → l.length - i = d → i ≤ l.length → Evt (fun k => quilllaw0_Strings.l0 k l i) () := by
  intro d
  induction d with
  | zero =>
    intro i l hl hd hi
    refine Evt.step (Evt.const rfl) (fun k => ?_)
    rw [quilllaw0_Strings.l0, if_neg (by omega), if_pos (by omega)]
  | succ d ih =>
    intro i l hl hd hi
    have hw := inc i (by omega)
    refine Evt.step (ih (i + 1) (l.set ((i : Int)).toNat (⟨#[115, 112, 111, 105, 108, 116]⟩ : ByteArray)) (by simp; omega) (by simp; omega) (by simp; omega)) (fun k => ?_)
    rw [quilllaw0_Strings.l0, if_pos (by omega), if_pos (by omega), hw]
theorem spoil (l : List ByteArray) (hl : l.length ≤ 100000) : Evt (fun k => quilllaw0_Strings.f k l) () := spoil_l0 l.length 0 l hl rfl (by omega)
theorem copy_l0 (l : List ByteArray) (hl : l.length ≤ 100000) : ∀ (d i : Nat), l.length - i = d → i ≤ l.length → Evt (fun k => quillref0_CopyStrings.l0 k l (l.take i) i) l := by
  intro d
  induction d with
  | zero =>
    intro i hd hi
    refine Evt.step (Evt.const rfl) (fun k => ?_)
    rw [quillref0_CopyStrings.l0, if_neg (by omega), List.take_of_length_le (by omega)]
  | succ d ih =>
    intro i hd hi
    have hw := inc i (by omega)
    have hlt : i < l.length := by omega
    have e : l.take i ++ [rdOf ByteArray.empty l (i : Int)] = l.take (i + 1) := by
      rw [List.take_succ_eq_append_getElem hlt]; simp [rdOf, hlt]
    refine Evt.step (ih (i + 1) (by omega) (by omega)) (fun k => ?_)
    rw [quillref0_CopyStrings.l0, if_pos (by omega), if_pos (by omega), if_pos (by rw [List.length_take]; omega), hw, e]
theorem copy (l : List ByteArray) (hl : l.length ≤ 100000) : Evt (fun k => quillref0_CopyStrings.f k l) l := by
  have := copy_l0 l hl l.length 0 rfl (by omega)
  simpa [quillref0_CopyStrings.f] using this
theorem refRow_loop (s : ByteArray) (h4 : s.size ≤ 6000) : ∀ (n i : Nat), s.size - i = n → i ≤ s.size →
    Evt (fun k => quillref1_Row.l0 k s i) (Lib.validD s.data.toList && (!(s.data.toList.drop i).contains 10 && !(s.data.toList.drop i).contains 0)) := by
  intro n
  induction n with
  | zero =>
    intro i hn hi
    refine Evt.step (Evt.const rfl) (fun k => ?_)
    rw [quillref1_Row.l0, if_neg (by omega), utf8_ValidString.f, if_pos (by omega), Option.bind_some, List.drop_eq_nil_of_le (by simp; omega)]
    simp
  | succ n ih =>
    intro i hn hi
    have hlt : i < s.size := by omega
    have hw := inc i (by omega)
    have hc := drop_cons s i hlt
    rw [hc]
    by_cases hb : s.data.toList.getD i 0 = 10
    · have hb' : bt s (i : Int) = 10 := by rw [bt_get s i hlt, hb]; rfl
      rw [hb]
      refine Evt.step (Evt.const (x := some false) (by simp)) (fun k => ?_)
      rw [quillref1_Row.l0, if_pos (by omega), if_pos (by omega), if_pos hb']
    · have hb' : ¬ bt s (i : Int) = 10 := by rw [bt_get s i hlt]; exact fun h => hb ((byte_eq (n := 10) (by decide)).1 h)
      by_cases h0 : s.data.toList.getD i 0 = 0
      · have h0' : bt s (i : Int) = 0 := by rw [bt_get s i hlt, h0]; rfl
        rw [h0]
        refine Evt.step (Evt.const (x := some false) (by simp)) (fun k => ?_)
        rw [quillref1_Row.l0, if_pos (by omega), if_pos (by omega), if_neg hb', if_pos h0']
      · have h0' : ¬ bt s (i : Int) = 0 := by rw [bt_get s i hlt]; exact fun h => h0 ((byte_eq (n := 0) (by decide)).1 h)
        have e1 : (s.data.toList.getD i 0 :: s.data.toList.drop (i + 1)).contains 10 = (s.data.toList.drop (i + 1)).contains 10 := by
          rw [List.contains_cons, beq_eq_false_iff_ne.2 (Ne.symm hb), Bool.false_or]
        have e2 : (s.data.toList.getD i 0 :: s.data.toList.drop (i + 1)).contains 0 = (s.data.toList.drop (i + 1)).contains 0 := by
          rw [List.contains_cons, beq_eq_false_iff_ne.2 (Ne.symm h0), Bool.false_or]
        rw [e1, e2]
        refine Evt.step (ih (i + 1) (by omega) (by omega)) (fun k => ?_)
        rw [quillref1_Row.l0, if_pos (by omega), if_pos (by omega), if_neg hb', if_neg h0', hw]
theorem refRow (s : ByteArray) (h4 : s.size ≤ 6000) : Evt (fun k => quillref1_Row.f k s) (rowB s) := refRow_loop s h4 s.size 0 rfl (by omega)

/-- text.Join's look at the rows. -/
def chk : Int → List ByteArray → Bool
  | _, [] => true
  | n, s :: r => decide (n + s.size ≤ 4000) && (!s.data.toList.contains 10) && chk (n + s.size) r
def total (L : List ByteArray) : Nat := (L.map (·.size)).sum
theorem chk_ok : ∀ (L : List ByteArray) (n : Int), n + total L ≤ 4000 → chk n L = !(L.any fun s => s.data.toList.contains 10)
  | [], _, _ => rfl
  | s :: r, n, h => by
    have h' : n + s.size + total r ≤ 4000 := by simp [total] at h ⊢; omega
    rw [chk, chk_ok r (n + s.size) h', decide_eq_true (show n + (s.size : Int) ≤ 4000 by omega), List.any_cons]
    simp
theorem total_le : ∀ (L : List ByteArray), (∀ s ∈ L, s.size ≤ 6000) → total L ≤ 6000 * L.length
  | [], _ => by simp [total]
  | s :: r, h => by
    have h1 := h s (by simp)
    have h2 := total_le r (fun x hx => h x (by simp [hx]))
    simp [total] at h2 ⊢
    omega
theorem joinB_size (L : List ByteArray) (h : L ≠ []) : ((joinB L).size : Int) = (L.length : Int) - 1 + total L := by
  have h1 := join_len (L.map (·.data.toList)) (by simpa using h)
  have e : ((L.map (·.data.toList)).map List.length) = L.map (·.size) := by
    rw [List.map_map]
    refine List.map_congr_left (fun s _ => ?_)
    simp
  rw [e, List.length_map] at h1
  have h2 : (joinB L).size = (join (L.map (·.data.toList)) [10]).length := mkB_size _
  rw [h2]
  exact h1
theorem sjoin_f (L : List ByteArray) (hs : ∀ s ∈ L, s.size ≤ 6000) (hl : L.length ≤ 6000) : strings_Join.f L ⟨#[10]⟩ = some (joinB L) := by
  have ht := total_le L hs
  have hj : (Lib.join (L.map (·.data.toList)) [10]).length ≤ 140737488355328 := by
    rcases List.eq_nil_or_concat L with rfl | ⟨a, b, hab⟩
    · simp [join]
    · have := joinB_size L (by rw [hab]; simp)
      have e : (joinB L).size = (join (L.map (·.data.toList)) [10]).length := mkB_size _
      omega
  unfold strings_Join.f
  rw [if_pos ⟨by omega, hj⟩]
  rfl
/-- text.Join's answer. -/
def tjoin (L : List ByteArray) : ByteArray × Int := if (!L.isEmpty && !(L.any fun s => s.data.toList.contains 10) && mayB (joinB L)) = true then (joinB L, 0) else (⟨#[]⟩, 1)
theorem tjoin_loop (L : List ByteArray) (hs : ∀ s ∈ L, s.size ≤ 6000) (hl : L.length ≤ 6000) : ∀ (d j : Nat) (n : Int), L.length - j = d → j ≤ L.length → 0 ≤ n → n ≤ 10000 →
    Evt (fun k => text_Join.l0 k L n L L.length j) (if (chk n (L.drop j) && mayB (joinB L)) = true then (joinB L, 0) else (⟨#[]⟩, 1)) := by
  intro d
  induction d with
  | zero =>
    intro j n hd hj h0 h1
    refine Evt.step (Evt.const rfl) (fun k => ?_)
    rw [text_Join.l0, if_neg (by omega), sjoin_f L hs hl, Option.bind_some, May_f, Option.bind_some, List.drop_eq_nil_of_le (by omega), chk, Bool.true_and]
    split <;> rfl
  | succ d ih =>
    intro j n hd hj h0 h1
    have hlt : j < L.length := by omega
    have hw := inc j (by omega)
    have hrd : rdOf ByteArray.empty L (j : Int) = L[j] := by simp [rdOf, hlt]
    have hz := hs L[j] (List.getElem_mem _)
    have hw2 : wrap64 (n + (L[j].size : Int)) = n + (L[j].size : Int) := by rw [w64] <;> omega
    rw [List.drop_eq_getElem_cons hlt, chk]
    by_cases h4 : n + (L[j].size : Int) ≤ 4000
    · by_cases hc : (10 : UInt8) ∈ L[j].data.toList
      · have hi : Lib.indexByte L[j].data.toList 10 ≥ 0 := by
          have := (not_congr (indexByte_lt L[j].data.toList 10)).2 (fun h => h hc)
          omega
        have e : L[j].data.toList.contains 10 = true := by simpa using hc
        rw [e]
        refine Evt.step (Evt.const (x := some (⟨#[]⟩, 1)) (by simp)) (fun k => ?_)
        rw [text_Join.l0, if_pos (by omega), if_pos (by omega), if_pos (by omega), hrd, hw2, if_neg (by omega), strings_IndexByte.f, Option.bind_some]
        exact if_pos hi
      · have hi : ¬ Lib.indexByte L[j].data.toList 10 ≥ 0 := by
          have := (indexByte_lt L[j].data.toList 10).2 hc
          omega
        have e : L[j].data.toList.contains 10 = false := by simpa using hc
        rw [e, decide_eq_true h4, Bool.not_false, Bool.true_and, Bool.true_and]
        refine Evt.step (ih (j + 1) (n + (L[j].size : Int)) (by omega) (by omega) (by omega) (by omega)) (fun k => ?_)
        rw [text_Join.l0, if_pos (by omega), if_pos (by omega), if_pos (by omega), hrd, hw2, if_neg (by omega), strings_IndexByte.f, Option.bind_some, hw]
        exact if_neg hi
    · rw [decide_eq_false h4]
      refine Evt.step (Evt.const (x := some (⟨#[]⟩, 1)) (by simp)) (fun k => ?_)
      rw [text_Join.l0, if_pos (by omega), if_pos (by omega), if_pos (by omega), hrd, hw2, if_pos (by omega)]
theorem tjoin_f (L : List ByteArray) (hs : ∀ s ∈ L, s.size ≤ 6000) (hl : L.length ≤ 6000) : Evt (fun k => text_Join.f k L) (tjoin L) := by
  by_cases he : L = []
  · subst he
    refine Evt.step (Evt.const (x := some (⟨#[]⟩, 1)) rfl) (fun k => ?_)
    rw [text_Join.f, if_pos (by simp), text_Join.j0, if_pos rfl]
  · have hpos : 0 < L.length := List.length_pos_iff.2 he
    have hsz := joinB_size L he
    have hemp : L.isEmpty = false := by simpa using he
    by_cases h4 : (L.length : Int) > 4001
    · have hm : mayB (joinB L) = false := by
        cases h : mayB (joinB L) with
        | false => rfl
        | true =>
          have := mayB_size h
          omega
      refine Evt.step (Evt.const (x := some (⟨#[]⟩, 1)) (by simp [tjoin, hm])) (fun k => ?_)
      rw [text_Join.f, if_neg (by omega), decide_eq_true h4, text_Join.j0, if_pos rfl]
    · have h := tjoin_loop L hs hl L.length 0 ((L.length : Int) - 1) rfl (by omega) (by omega) (by omega)
      have hw : wrap64 ((L.length : Int) - 1) = (L.length : Int) - 1 := by rw [w64] <;> omega
      have e : (chk ((L.length : Int) - 1) (L.drop 0) && mayB (joinB L)) = (!L.isEmpty && !(L.any fun s => s.data.toList.contains 10) && mayB (joinB L)) := by
        rw [hemp, List.drop_zero]
        cases hm : mayB (joinB L) with
        | false => simp
        | true =>
          have := mayB_size hm
          rw [chk_ok L _ (by omega)]
          simp
      rw [e] at h
      refine Evt.step h (fun k => ?_)
      rw [text_Join.f, if_neg (by omega), decide_eq_false h4, text_Join.j0, if_neg (by simp), hw]
      rfl
theorem join_snoc : ∀ (xs : List (List UInt8)) (a : List UInt8), xs ≠ [] → join (xs ++ [a]) [10] = join xs [10] ++ 10 :: a
  | [], _, h => absurd rfl h
  | [x], a, _ => by
    show join [x, a] [10] = _
    rw [rj_cons, rj_one, rj_one]
  | x :: y :: xs, a, _ => by
    show join (x :: y :: (xs ++ [a])) [10] = _
    rw [rj_cons, rj_cons, show y :: (xs ++ [a]) = (y :: xs) ++ [a] from rfl, join_snoc (y :: xs) a (by simp), List.append_assoc]
    rfl
theorem mk_app (a b : List UInt8) : mkB a ++ mkB b = mkB (a ++ b) := by
  apply ByteArray.ext
  simp [mkB]
theorem joinB_snoc (L : List ByteArray) (s : ByteArray) : joinB (L ++ [s]) = if L = [] then s else (joinB L ++ (⟨#[10]⟩ : ByteArray)) ++ s := by
  unfold joinB
  rw [List.map_append]
  by_cases h : L = []
  · subst h
    rw [if_pos rfl]
    show mkB (join [s.data.toList] [10]) = s
    rw [rj_one, mkB_data]
  · rw [if_neg h]
    show mkB (join (L.map (·.data.toList) ++ [s.data.toList]) [10]) = _
    rw [join_snoc _ _ (by simpa using h)]
    conv => rhs; rw [← mkB_data s]
    rw [show (⟨#[10]⟩ : ByteArray) = mkB [10] from rfl, mk_app, mk_app]
    congr 1
    simp
theorem refJoin_loop (L : List ByteArray) (hs : ∀ s ∈ L, s.size ≤ 6000) (hl : L.length ≤ 6000) : ∀ (d i : Nat), L.length - i = d → i ≤ L.length → Evt (fun k => quillref1_Join.l0 k L (joinB (L.take i)) i) (joinB L) := by
  intro d
  induction d with
  | zero =>
    intro i hd hi
    refine Evt.step (Evt.const rfl) (fun k => ?_)
    rw [quillref1_Join.l0, if_neg (by omega), List.take_of_length_le (by omega)]
  | succ d ih =>
    intro i hd hi
    have hlt : i < L.length := by omega
    have hw := inc i (by omega)
    have hrd : rdOf ByteArray.empty L (i : Int) = L[i] := by simp [rdOf, hlt]
    have hz := hs L[i] (List.getElem_mem _)
    have hsn := joinB_snoc (L.take i) L[i]
    rw [← List.take_succ_eq_append_getElem hlt] at hsn
    have hih := ih (i + 1) (by omega) (by omega)
    have hsz : (joinB (L.take i)).size ≤ 100000000 := by
      by_cases h0 : L.take i = []
      · rw [h0, show joinB [] = mkB [] from rfl, mkB_size]; simp
      · have h1 := joinB_size _ h0
        have h2 := total_le (L.take i) (fun s h => hs s (List.mem_of_mem_take h))
        rw [List.length_take] at h1 h2
        omega
    have h10 : (⟨#[10]⟩ : ByteArray).size = 1 := rfl
    by_cases h0 : i = 0
    · subst h0
      rw [List.take_zero, if_pos rfl] at hsn
      rw [hsn] at hih
      refine Evt.step hih (fun k => ?_)
      have e : joinB (L.take 0) ++ L[0] = L[0] := by
        rw [List.take_zero]
        show mkB [] ++ L[0] = L[0]
        conv => lhs; rw [← mkB_data L[0], mk_app]
        rw [List.nil_append, mkB_data]
      rw [quillref1_Join.l0, if_pos (by omega), if_neg (by omega), if_pos (by omega), hrd, if_pos (by omega), hw]
      rw [show joinB (List.take 0 L) ++ L[0] = L[0] from e]
    · have hne : L.take i ≠ [] := fun h => by
        have := congrArg List.length h
        rw [List.length_take, List.length_nil] at this
        omega
      rw [if_neg hne] at hsn
      rw [hsn] at hih
      refine Evt.step hih (fun k => ?_)
      rw [quillref1_Join.l0, if_pos (by omega), if_pos (by omega), if_pos (by omega), if_pos (by omega), hrd, if_pos (by rw [ByteArray.size_append, h10]; omega), hw]
theorem refJoin (L : List ByteArray) (hs : ∀ s ∈ L, s.size ≤ 6000) (hl : L.length ≤ 6000) : Evt (fun k => quillref1_Join.f k L) (joinB L) := refJoin_loop L hs hl L.length 0 rfl (by omega)

theorem wakes_f : quilllaw1_wakes.f = some true := by
  have h : text_Place.f (⟨#[97, 98, 10, 99]⟩ : ByteArray) 3 = some (1, 0, 0) := by
    unfold text_Place.f
    have : placeF (⟨#[97, 98, 10, 99]⟩ : ByteArray) 3 = (1, 0, 0) := by decide +kernel
    rw [this]
  unfold quilllaw1_wakes.f
  rw [h]
  rfl
theorem small {s : ByteArray} (h : mayB s = true) : s.size ≤ 4000 := mayB_size h
theorem len_f (s : ByteArray) (hs : s.size ≤ 6000) : text_Len.f s = some (if mayB s = true then (((rs s).length : Int), 0) else (0, 1)) := by
  unfold text_Len.f
  rw [May_f, Option.bind_some]
  cases mayB s with
  | true => rw [if_pos rfl, if_pos rfl, utf8_RuneCountInString.f, if_pos (by omega)]; rfl
  | false => rw [if_neg (by simp), if_neg (by simp)]
theorem rows_f (s : ByteArray) (hs : s.size ≤ 6000) : text_Rows.f s = some (if mayB s = true then (rowsOf s, 0) else ([], 1)) := by
  unfold text_Rows.f
  rw [May_f, Option.bind_some]
  cases mayB s with
  | true => rw [if_pos rfl, if_pos rfl, split_f s (by omega)]; rfl
  | false => rw [if_neg (by simp), if_neg (by simp)]
theorem check_f (s : ByteArray) : text_Check.f s = some (if mayB s = true then 0 else 1) := by
  unfold text_Check.f
  rw [May_f, Option.bind_some]
  cases mayB s with
  | true => rfl
  | false => rfl
theorem reflen_f (s : ByteArray) (hs : s.size ≤ 6000) : quillref1_Len.f s = some ((rs s).length : Int) := by
  unfold quillref1_Len.f
  rw [cv_rs (by omega), Option.bind_some]
theorem rowsOf_len (s : ByteArray) (hs : s.size ≤ 6000) : (rowsOf s).length ≤ 6001 := by
  have := rowsL_len s.data.toList
  simp [rowsOf] at this ⊢
  omega
/-- Behind one text's look. -/
theorem j2_f (L : List ByteArray) (a b c d : Int) (i : Nat) (hi : i ≤ 6000) (s : ByteArray) (x5 : Int) (l : List ByteArray) (hl : l.length ≤ 6001) (bad : Int) (hb : (if mayB s = true then (0 : Int) else 1) = bad)
    (hnext : Evt (fun k => quilllaw1_TextRows.l0 k ((i + 1 : Nat) : Int) L a b c d) true) : Evt (fun k => quilllaw1_TextRows.j2 k i s x5 bad l bad bad x5 l L a b c d) true := by
  obtain ⟨k0, h0⟩ := eqs_self l (by omega)
  obtain ⟨k1, h1⟩ := spoil l (by omega)
  obtain ⟨k2, h2⟩ := hnext
  refine ⟨k0 + k1 + k2 + 1, fun k hk => ?_⟩
  obtain ⟨m, rfl⟩ : ∃ m, k = m + 1 := ⟨k - 1, by omega⟩
  have g0 : quillref0_EqStrings.f m l l = some true := h0 m (by omega)
  have g1 : quilllaw0_Strings.f m l = some () := h1 m (by omega)
  have g2 : quilllaw1_TextRows.l0 m ((i + 1 : Nat) : Int) L a b c d = some true := h2 m (by omega)
  have hw := inc i (by omega)
  show quilllaw1_TextRows.j2 (m + 1) i s x5 bad l bad bad x5 l L a b c d = some true
  rw [quilllaw1_TextRows.j2, check_f, hb, Option.bind_some, num_f, Option.bind_some, if_pos (Eq.refl bad), Option.bind_some, if_pos (Eq.refl bad), Option.bind_some, if_pos (Eq.refl bad), if_pos (Eq.refl x5), g0, Option.bind_some, if_pos rfl, g1, Option.bind_some, hw, g2]
theorem j4_t (L : List ByteArray) (a b c d : Int) (hs : ∀ s ∈ L, s.size ≤ 6000) (hl : L.length ≤ 6000) (hj : tjoin L = (joinB L, 0)) (x18 : ByteArray) : Evt (fun k => quilllaw1_TextRows.j4 k L (joinB L) 0 1 x18 true L a b c d) true := by
  obtain ⟨k0, h0⟩ := eqs_self L (by omega)
  obtain ⟨k1, h1⟩ := refJoin L hs hl
  refine ⟨k0 + k1 + 1, fun k hk => ?_⟩
  obtain ⟨m, rfl⟩ : ∃ m, k = m + 1 := ⟨k - 1, by omega⟩
  have g0 : quillref0_EqStrings.f m L L = some true := h0 m (by omega)
  have g1 : quillref1_Join.f m L = some (joinB L) := h1 m (by omega)
  show quilllaw1_TextRows.j4 (m + 1) L (joinB L) 0 1 x18 true L a b c d = some true
  rw [quilllaw1_TextRows.j4, if_pos rfl, g1, Option.bind_some, num_f, Option.bind_some, if_pos (Eq.refl (0 : Int)), if_pos rfl, g0, Option.bind_some, if_pos rfl, wakes_f]
  rfl
theorem j4_f (L : List ByteArray) (a b c d : Int) (hl : L.length ≤ 6000) : Evt (fun k => quilllaw1_TextRows.j4 k L (⟨#[]⟩ : ByteArray) 1 1 (⟨#[]⟩ : ByteArray) false L a b c d) true := by
  obtain ⟨k0, h0⟩ := eqs_self L (by omega)
  refine ⟨k0 + 1, fun k hk => ?_⟩
  obtain ⟨m, rfl⟩ : ∃ m, k = m + 1 := ⟨k - 1, by omega⟩
  have g0 : quillref0_EqStrings.f m L L = some true := h0 m (by omega)
  show quilllaw1_TextRows.j4 (m + 1) L (⟨#[]⟩ : ByteArray) 1 1 (⟨#[]⟩ : ByteArray) false L a b c d = some true
  rw [quilllaw1_TextRows.j4, if_neg (by simp), num_f, Option.bind_some, if_pos (Eq.refl (1 : Int)), if_pos rfl, g0, Option.bind_some, if_pos rfl, wakes_f]
  rfl
/-- The rows, looked at one by one. -/
theorem l1_loop (L : List ByteArray) (a b c d : Int) (hs : ∀ s ∈ L, s.size ≤ 6000) (hl : L.length ≤ 6000) : ∀ (n i : Nat), L.length - i = n → i ≤ L.length →
    Evt (fun k => quilllaw1_TextRows.l1 k L (tjoin L).1 (tjoin L).2 (decide ((L.length : Int) > 0) && (L.take i).all rowB) i L a b c d) true := by
  intro n
  induction n with
  | zero =>
    intro i hn hi
    rw [List.take_of_length_le (by omega)]
    have hmr := may_rows L
    have hpos : decide ((L.length : Int) > 0) = !L.isEmpty := by
      cases L with
      | nil => rfl
      | cons x l => exact decide_eq_true (by simp only [List.length_cons]; omega)
    have ht : tjoin L = if ((decide ((L.length : Int) > 0) && L.all rowB) && mayB (joinB L)) = true then (joinB L, 0) else (⟨#[]⟩, 1) := by
      unfold tjoin
      rw [Bool.and_assoc, ← hmr, ← Bool.and_assoc, hpos]
    cases hx : (decide ((L.length : Int) > 0) && L.all rowB) with
    | true =>
      rw [hx, Bool.true_and] at ht
      obtain ⟨k0, h0⟩ := refJoin L hs hl
      have hsz : (joinB L).size ≤ 9223372036854775807 := by
        rcases List.eq_nil_or_concat L with rfl | ⟨p, q, hpq⟩
        · rw [show joinB [] = mkB [] from rfl, mkB_size]; simp
        · have h1 := joinB_size L (by rw [hpq]; simp)
          have h2 := total_le L hs
          omega
      obtain ⟨k1, h1⟩ := refMay (joinB L) hsz
      cases hm : mayB (joinB L) with
      | true =>
        rw [hm, if_pos rfl] at ht
        obtain ⟨k2, h2⟩ := j4_t L a b c d hs hl ht (⟨#[]⟩ : ByteArray)
        rw [hm] at h1
        refine ⟨k0 + k1 + k2 + 1, fun k hk => ?_⟩
        obtain ⟨m, rfl⟩ : ∃ m, k = m + 1 := ⟨k - 1, by omega⟩
        have g0 : quillref1_Join.f m L = some (joinB L) := h0 m (by omega)
        have g1 : quillref1_May.f m (joinB L) = some true := h1 m (by omega)
        show quilllaw1_TextRows.l1 (m + 1) L (tjoin L).1 (tjoin L).2 true i L a b c d = some true
        rw [quilllaw1_TextRows.l1, if_neg (by omega), if_pos rfl, g0, Option.bind_some, g1, Option.bind_some, ht]
        exact h2 m (by omega)
      | false =>
        rw [hm, if_neg (by simp)] at ht
        obtain ⟨k2, h2⟩ := j4_f L a b c d hl
        rw [hm] at h1
        refine ⟨k0 + k1 + k2 + 1, fun k hk => ?_⟩
        obtain ⟨m, rfl⟩ : ∃ m, k = m + 1 := ⟨k - 1, by omega⟩
        have g0 : quillref1_Join.f m L = some (joinB L) := h0 m (by omega)
        have g1 : quillref1_May.f m (joinB L) = some false := h1 m (by omega)
        show quilllaw1_TextRows.l1 (m + 1) L (tjoin L).1 (tjoin L).2 true i L a b c d = some true
        rw [quilllaw1_TextRows.l1, if_neg (by omega), if_pos rfl, g0, Option.bind_some, g1, Option.bind_some, ht]
        exact h2 m (by omega)
    | false =>
      rw [hx, Bool.false_and, if_neg (by simp)] at ht
      refine Evt.step (j4_f L a b c d hl) (fun k => ?_)
      rw [quilllaw1_TextRows.l1, if_neg (by omega), if_neg (by simp), ht]
  | succ n ih =>
    intro i hn hi
    have hlt : i < L.length := by omega
    have hw := inc i (by omega)
    have hrd : rdOf ByteArray.empty L (i : Int) = L[i] := by simp [rdOf, hlt]
    have hz := hs L[i] (List.getElem_mem _)
    have h := ih (i + 1) (by omega) (by omega)
    have e : (L.take (i + 1)).all rowB = ((L.take i).all rowB && rowB L[i]) := by
      rw [List.take_succ_eq_append_getElem hlt, List.all_append]; simp
    rw [e] at h
    cases hx : (decide ((L.length : Int) > 0) && (L.take i).all rowB) with
    | true =>
      rw [← Bool.and_assoc, hx, Bool.true_and] at h
      obtain ⟨k0, h0⟩ := h
      obtain ⟨k1, h1⟩ := refRow L[i] hz
      refine ⟨k0 + k1 + 1, fun k hk => ?_⟩
      obtain ⟨m, rfl⟩ : ∃ m, k = m + 1 := ⟨k - 1, by omega⟩
      have g1 : quillref1_Row.f m L[i] = some (rowB L[i]) := h1 m (by omega)
      show quilllaw1_TextRows.l1 (m + 1) L (tjoin L).1 (tjoin L).2 true i L a b c d = some true
      rw [quilllaw1_TextRows.l1, if_pos (by omega), if_pos rfl, if_pos (by omega), hrd, g1, Option.bind_some, hw]
      exact h0 m (by omega)
    | false =>
      rw [← Bool.and_assoc, hx, Bool.false_and] at h
      refine Evt.step h (fun k => ?_)
      rw [quilllaw1_TextRows.l1, if_pos (by omega), if_neg (by simp), hw]
theorem l0_loop (L : List ByteArray) (a b c d : Int) (hs : ∀ s ∈ L, s.size ≤ 6000) (hl : L.length ≤ 6000) : ∀ (n i : Nat), L.length - i = n → i ≤ L.length → Evt (fun k => quilllaw1_TextRows.l0 k i L a b c d) true := by
  have hdone : ∀ i : Nat, ¬ (i < L.length ∧ i < 5) → Evt (fun k => quilllaw1_TextRows.l0 k i L a b c d) true := by
    intro i hi
    obtain ⟨k0, h0⟩ := copy L (by omega)
    obtain ⟨k1, h1⟩ := tjoin_f L hs hl
    have h2 := l1_loop L a b c d hs hl L.length 0 rfl (by omega)
    simp only [List.take_zero, List.all_nil, Bool.and_true] at h2
    obtain ⟨k2, h2⟩ := h2
    refine ⟨k0 + k1 + k2 + 2, fun k hk => ?_⟩
    obtain ⟨m, rfl⟩ : ∃ m, k = m + 2 := ⟨k - 2, by omega⟩
    have g0 : quillref0_CopyStrings.f m L = some L := h0 m (by omega)
    have g1 : text_Join.f m L = some (tjoin L) := h1 m (by omega)
    have g2 : quilllaw1_TextRows.l1 m L (tjoin L).1 (tjoin L).2 (decide ((L.length : Int) > 0)) 0 L a b c d = some true := h2 m (by omega)
    show quilllaw1_TextRows.l0 (m + 2) i L a b c d = some true
    rw [quilllaw1_TextRows.l0]
    by_cases hil : i < L.length
    · rw [if_pos (by omega), decide_eq_false (by omega), quilllaw1_TextRows.j1, if_neg (by simp), g0, Option.bind_some, g1, Option.bind_some, g2]
    · rw [if_neg (by omega), quilllaw1_TextRows.j1, if_neg (by simp), g0, Option.bind_some, g1, Option.bind_some, g2]
  intro n
  induction n with
  | zero => intro i hn hi; exact hdone i (by omega)
  | succ n ih =>
    intro i hn hi
    by_cases hi5 : i < 5
    · have hlt : i < L.length := by omega
      have hrd : rdOf ByteArray.empty L (i : Int) = L[i] := by simp [rdOf, hlt]
      have hz := hs L[i] (List.getElem_mem _)
      have hnext := ih (i + 1) (by omega) (by omega)
      obtain ⟨k1, h1⟩ := refMay L[i] (by omega)
      cases hm : mayB L[i] with
      | true =>
        rw [hm] at h1
        obtain ⟨k0, h0⟩ := j2_f L a b c d i (by omega) L[i] (rs L[i]).length (rowsOf L[i]) (rowsOf_len _ hz) 0 (by rw [hm, if_pos rfl]) hnext
        obtain ⟨k2, h2⟩ := refRows L[i] (small hm)
        refine ⟨k0 + k1 + k2 + 2, fun k hk => ?_⟩
        obtain ⟨m, rfl⟩ : ∃ m, k = m + 2 := ⟨k - 2, by omega⟩
        have g1 : quillref1_May.f m L[i] = some true := h1 m (by omega)
        have g2 : quillref1_Rows.f m L[i] = some (rowsOf L[i]) := h2 m (by omega)
        show quilllaw1_TextRows.l0 (m + 2) i L a b c d = some true
        rw [quilllaw1_TextRows.l0, if_pos (by omega), decide_eq_true (show (i : Int) < 5 by omega), quilllaw1_TextRows.j1, if_pos rfl, if_pos (by omega), if_pos (by omega), hrd, len_f _ hz, hm, if_pos rfl, Option.bind_some, rows_f _ hz, hm, if_pos rfl, Option.bind_some, g1, Option.bind_some, if_pos rfl, reflen_f _ hz, Option.bind_some, g2, Option.bind_some]
        exact h0 m (by omega)
      | false =>
        rw [hm] at h1
        obtain ⟨k0, h0⟩ := j2_f L a b c d i (by omega) L[i] 0 [] (by simp) 1 (by rw [hm, if_neg (by simp)]) hnext
        refine ⟨k0 + k1 + 2, fun k hk => ?_⟩
        obtain ⟨m, rfl⟩ : ∃ m, k = m + 2 := ⟨k - 2, by omega⟩
        have g1 : quillref1_May.f m L[i] = some false := h1 m (by omega)
        show quilllaw1_TextRows.l0 (m + 2) i L a b c d = some true
        rw [quilllaw1_TextRows.l0, if_pos (by omega), decide_eq_true (show (i : Int) < 5 by omega), quilllaw1_TextRows.j1, if_pos rfl, if_pos (by omega), if_pos (by omega), hrd, len_f _ hz, hm, if_neg (by simp), Option.bind_some, rows_f _ hz, hm, if_neg (by simp), Option.bind_some, g1, Option.bind_some, if_neg (by simp)]
        exact h0 m (by omega)
    · exact hdone i (by omega)
theorem TextRows_pure (l : List ByteArray) (hsz : ∀ s ∈ l, s.size ≤ 140737488355327) (hl : l.length ≤ 140737488355327) (a b c d : Int) : ∃ k, quilllaw1_TextRows.f k l a b c d = some true := by
  obtain ⟨t, ⟨k0, h0⟩, ht⟩ := heavy1 l hsz hl a b c d
  cases t with
  | true => exact ⟨k0, by rw [quilllaw1_TextRows.f, show quilllaw1_Heavy.f k0 l a b c d = some true from h0 k0 (Nat.le_refl _)]; rfl⟩
  | false =>
    obtain ⟨h1, h2⟩ := ht rfl
    obtain ⟨k1, h1⟩ := l0_loop l a b c d h1 h2 l.length 0 rfl (by omega)
    refine ⟨k0 + k1, ?_⟩
    rw [quilllaw1_TextRows.f, show quilllaw1_Heavy.f (k0 + k1) l a b c d = some false from h0 _ (by omega), Option.bind_some, if_neg (by simp)]
    exact h1 _ (by omega)
end Go.Proofs.YtfiapekpeiapbaaDoor.Tr
