import Derived.Test.YtfiapekpeiapbaaDoorTbHv
import Derived.Test.YtfiapekpeiapbaaDoorTx
import Derived.Test.YtfiapekpeiapbaaDoorTbx2
/-! TextBack, in plain Lean. -/
namespace Go.Proofs.YtfiapekpeiapbaaDoor.Tb
open Go.RowKit Go.Proofs.YtfiapekpeiapbaaDoor.Q Go.Proofs.YtfiapekpeiapbaaDoor.F Go.Lib
open Go.Proofs.YtfiapekpeiapbaaDoorW.PrintWords Go.Proofs.YtfiapekpeiapbaaDoorW.PrintLast Go.Proofs.YtfiapekpeiapbaaDoorW.PrintMore

theorem num_f (a : Int) : quilllaw1_num.f a = some a := rfl
theorem inc (i : Nat) (h : i ≤ 9223372036854775806) : wrap64 ((i : Int) + 1) = ((i + 1 : Nat) : Int) := by
  rw [w64] <;> omega
def chk : Int → List ByteArray → Bool
  | _, [] => true
  | n, s :: r => decide (n + s.size ≤ 4000) && (!s.data.toList.contains 10) && chk (n + s.size) r
def total (L : List ByteArray) : Nat := (L.map (·.size)).sum
theorem chk_ok : ∀ (L : List ByteArray) (n : Int), n + total L ≤ 4000 → chk n L = !(L.any fun s => s.data.toList.contains 10)
  | [], _, _ => rfl
  | s :: r, n, h => by
    have h' : n + s.size + total r ≤ 4000 := by simp [total] at h ⊢; omega
    rw [chk, chk_ok r (n + s.size) h', decide_eq_true (show n + (s.size : Int) ≤ 4000 by omega), List.any_cons]
    simp
theorem total_le : ∀ (L : List ByteArray), (∀ s ∈ L, s.size ≤ 6000) → total L ≤ 6000 * L.length
  | [], _ => by simp [total]
  | s :: r, h => by
    have h1 := h s (by simp)
    have h2 := total_le r (fun x hx => h x (by simp [hx]))
    simp [total] at h2 ⊢
    omega
theorem joinB_size (L : List ByteArray) (h : L ≠ []) : ((joinB L).size : Int) = (L.length : Int) - 1 + total L := by
  have h1 := join_len (L.map (·.data.toList)) (by simpa using h)
  have e : ((L.map (·.data.toList)).map List.length) = L.map (·.size) := by
    rw [List.map_map]
    refine List.map_congr_left (fun s _ => ?_)
    simp
  rw [e, List.length_map] at h1
  have h2 : (joinB L).size = (join (L.map (·.data.toList)) [10]).length := mkB_size _
  rw [h2]
  exact h1
theorem sjoin_f (L : List ByteArray) (hs : ∀ s ∈ L, s.size ≤ 6000) (hl : L.length ≤ 6000) : strings_Join.f L ⟨#[10]⟩ = some (joinB L) := by
  have ht := total_le L hs
  have hj : (Lib.join (L.map (·.data.toList)) [10]).length ≤ 140737488355328 := by
    rcases List.eq_nil_or_concat L with rfl | ⟨a, b, hab⟩
    · simp [join]
    · have := joinB_size L (by rw [hab]; simp)
      have e : (joinB L).size = (join (L.map (·.data.toList)) [10]).length := mkB_size _
      omega
  unfold strings_Join.f
  rw [if_pos ⟨by omega, hj⟩]
  rfl
def tjoin (L : List ByteArray) : ByteArray × Int := if (!L.isEmpty && !(L.any fun s => s.data.toList.contains 10) && mayB (joinB L)) = true then (joinB L, 0) else (⟨#[]⟩, 1)
theorem tjoin_loop (L : List ByteArray) (hs : ∀ s ∈ L, s.size ≤ 6000) (hl : L.length ≤ 6000) : ∀ (d j : Nat) (n : Int), L.length - j = d → j ≤ L.length → 0 ≤ n → n ≤ 10000 →
    Evt (fun k => text_Join.l0 k L n L L.length j) (if (chk n (L.drop j) && mayB (joinB L)) = true then (joinB L, 0) else (⟨#[]⟩, 1)) := by
  intro d
  induction d with
  | zero =>
    intro j n hd hj h0 h1
    refine Evt.step (Evt.const rfl) (fun k => ?_)
    rw [text_Join.l0, if_neg (by omega), sjoin_f L hs hl, Option.bind_some, May_f, Option.bind_some, List.drop_eq_nil_of_le (by omega), chk, Bool.true_and]
    split <;> rfl
  | succ d ih =>
    intro j n hd hj h0 h1
    have hlt : j < L.length := by omega
    have hw := inc j (by omega)
    have hrd : rdOf ByteArray.empty L (j : Int) = L[j] := by simp [rdOf, hlt]
    have hz := hs L[j] (List.getElem_mem _)
    have hw2 : wrap64 (n + (L[j].size : Int)) = n + (L[j].size : Int) := by rw [w64] <;> omega
    rw [List.drop_eq_getElem_cons hlt, chk]
    by_cases h4 : n + (L[j].size : Int) ≤ 4000
    · by_cases hc : (10 : UInt8) ∈ L[j].data.toList
      · have hi : Lib.indexByte L[j].data.toList 10 ≥ 0 := by
          have := (not_congr (indexByte_lt L[j].data.toList 10)).2 (fun h => h hc)
          omega
        have e : L[j].data.toList.contains 10 = true := by simpa using hc
        rw [e]
        refine Evt.step (Evt.const (x := some (⟨#[]⟩, 1)) (by simp)) (fun k => ?_)
        rw [text_Join.l0, if_pos (by omega), if_pos (by omega), if_pos (by omega), hrd, hw2, if_neg (by omega), strings_IndexByte.f, Option.bind_some]
        exact if_pos hi
      · have hi : ¬ Lib.indexByte L[j].data.toList 10 ≥ 0 := by
          have := (indexByte_lt L[j].data.toList 10).2 hc
          omega
        have e : L[j].data.toList.contains 10 = false := by simpa using hc
        rw [e, decide_eq_true h4, Bool.not_false, Bool.true_and, Bool.true_and]
        refine Evt.step (ih (j + 1) (n + (L[j].size : Int)) (by omega) (by omega) (by omega) (by omega)) (fun k => ?_)
        rw [text_Join.l0, if_pos (by omega), if_pos (by omega), if_pos (by omega), hrd, hw2, if_neg (by omega), strings_IndexByte.f, Option.bind_some, hw]
        exact if_neg hi
    · rw [decide_eq_false h4]
      refine Evt.step (Evt.const (x := some (⟨#[]⟩, 1)) (by simp)) (fun k => ?_)
      rw [text_Join.l0, if_pos (by omega), if_pos (by omega), if_pos (by omega), hrd, hw2, if_pos (by omega)]
theorem tjoin_f (L : List ByteArray) (hs : ∀ s ∈ L, s.size ≤ 6000) (hl : L.length ≤ 6000) : Evt (fun k => text_Join.f k L) (tjoin L) := by
  by_cases he : L = []
  · subst he
    refine Evt.step (Evt.const (x := some (⟨#[]⟩, 1)) rfl) (fun k => ?_)
    rw [text_Join.f, if_pos (by simp), text_Join.j0, if_pos rfl]
  · have hpos : 0 < L.length := List.length_pos_iff.2 he
    have hsz := joinB_size L he
    have hemp : L.isEmpty = false := by simpa using he
    by_cases h4 : (L.length : Int) > 4001
    · have hm : mayB (joinB L) = false := by
        cases h : mayB (joinB L) with
        | false => rfl
        | true =>
          have := mayB_size h
          omega
      refine Evt.step (Evt.const (x := some (⟨#[]⟩, 1)) (by simp [tjoin, hm])) (fun k => ?_)
      rw [text_Join.f, if_neg (by omega), decide_eq_true h4, text_Join.j0, if_pos rfl]
    · have h := tjoin_loop L hs hl L.length 0 ((L.length : Int) - 1) rfl (by omega) (by omega) (by omega)
      have hw : wrap64 ((L.length : Int) - 1) = (L.length : Int) - 1 := by rw [w64] <;> omega
      have e : (chk ((L.length : Int) - 1) (L.drop 0) && mayB (joinB L)) = (!L.isEmpty && !(L.any fun s => s.data.toList.contains 10) && mayB (joinB L)) := by
        rw [hemp, List.drop_zero]
        cases hm : mayB (joinB L) with
        | false => simp
        | true =>
          have := mayB_size hm
          rw [chk_ok L _ (by omega)]
          simp
      rw [e] at h
      refine Evt.step h (fun k => ?_)
      rw [text_Join.f, if_neg (by omega), decide_eq_false h4, text_Join.j0, if_neg (by simp), hw]
      rfl
theorem wakes_f : quilllaw1_wakes.f = some true := by
  have h : text_Place.f (⟨#[97, 98, 10, 99]⟩ : ByteArray) 3 = some (1, 0, 0) := by
    unfold text_Place.f
    have : placeF (⟨#[97, 98, 10, 99]⟩ : ByteArray) 3 = (1, 0, 0) := by decide +kernel
    rw [this]
  unfold quilllaw1_wakes.f
  rw [h]
  rfl
theorem small {s : ByteArray} (h : mayB s = true) : s.size ≤ 4000 := mayB_size h
theorem len_f (s : ByteArray) (hs : s.size ≤ 6000) : text_Len.f s = some (if mayB s = true then (((rs s).length : Int), 0) else (0, 1)) := by
  unfold text_Len.f
  rw [May_f, Option.bind_some]
  cases mayB s with
  | true => rw [if_pos rfl, if_pos rfl, utf8_RuneCountInString.f, if_pos (by omega)]; rfl
  | false => rw [if_neg (by simp), if_neg (by simp)]
theorem rows_f (s : ByteArray) (hs : s.size ≤ 6000) : text_Rows.f s = some (if mayB s = true then (rowsOf s, 0) else ([], 1)) := by
  unfold text_Rows.f
  rw [May_f, Option.bind_some]
  cases mayB s with
  | true => rw [if_pos rfl, if_pos rfl, split_f s (by omega)]; rfl
  | false => rw [if_neg (by simp), if_neg (by simp)]
theorem rowsOf_len (s : ByteArray) (hs : s.size ≤ 6000) : (rowsOf s).length ≤ 6001 := by
  have := rowsL_len s.data.toList
  simp [rowsOf] at this ⊢
  omega

theorem rowsL_no10 : ∀ (l : List UInt8), ∀ r ∈ rowsL l, (10 : UInt8) ∉ r
  | [], r, h => by
    obtain rfl : r = [] := by simpa [rowsL] using h
    simp
  | c :: l, r, h => by
    unfold rowsL at h
    by_cases hc : c = 10
    · rw [if_pos hc] at h
      rcases List.mem_cons.1 h with rfl | h
      · simp
      · exact rowsL_no10 l r h
    · rw [if_neg hc] at h
      obtain ⟨a, q, ha⟩ := rowsL_cons l
      rw [ha] at h
      have h' : r = c :: a ∨ r ∈ q := by simpa using h
      rcases h' with rfl | h'
      · have := rowsL_no10 l a (by rw [ha]; simp)
        simp [Ne.symm hc, this]
      · exact rowsL_no10 l r (by rw [ha]; simp [h'])
theorem tjoin_rows {s : ByteArray} (h : mayB s = true) : tjoin (rowsOf s) = (s, 0) := by
  have h1 : (rowsOf s).isEmpty = false := by
    obtain ⟨a, q, ha⟩ := rowsL_cons s.data.toList
    simp [rowsOf, ha]
  have h2 : ((rowsOf s).any fun x => x.data.toList.contains 10) = false := by
    rw [List.any_eq_false]
    intro x hx
    simp only [rowsOf, List.mem_map] at hx
    obtain ⟨r, hr, rfl⟩ := hx
    have := rowsL_no10 _ r hr
    simpa [mkB] using this
  unfold tjoin
  rw [h1, h2, join_rows, h]
  rfl
theorem rowsOf_size (s : ByteArray) (hs : s.size ≤ 6000) : ∀ x ∈ rowsOf s, x.size ≤ 6000 := by
  intro x hx
  simp only [rowsOf, List.mem_map] at hx
  obtain ⟨r, hr, rfl⟩ := hx
  rw [mkB_size]
  have h1 : ∀ (L : List (List UInt8)), r ∈ L → r.length ≤ (join L [10]).length := by
    intro L
    induction L with
    | nil => intro h; cases h
    | cons a L ih =>
      intro h
      cases L with
      | nil =>
        obtain rfl : r = a := by simpa using h
        rw [rj_one]
        exact Nat.le_refl _
      | cons b L =>
        rw [rj_cons, List.length_append, List.length_cons]
        rcases List.mem_cons.1 h with rfl | h
        · omega
        · have := ih h; omega
  have h2 := h1 _ hr
  rw [rows_join] at h2
  have : s.data.toList.length = s.size := by simp
  omega
theorem rowsL_count : ∀ (l : List UInt8), (rowsL l).length = l.count 10 + 1
  | [] => rfl
  | c :: l => by
    have ih := rowsL_count l
    unfold rowsL
    by_cases hc : c = 10
    · subst hc
      rw [if_pos rfl, List.length_cons, ih, List.count_cons_self]
    · rw [if_neg hc, List.length_modifyHead, ih, List.count_cons_of_ne hc]
theorem beginsF_count : ∀ (R : List Int) (i : Nat), (beginsF R i).length = R.count 10
  | [], i => rfl
  | x :: R, i => by
    have ih := beginsF_count R (i + 1)
    unfold beginsF
    by_cases hx : x = 10
    · subst hx
      rw [if_pos rfl, List.length_cons, ih, List.count_cons_self]
    · rw [if_neg hx, ih, List.count_cons_of_ne hx]
theorem bys_count : ∀ (R : List Int), (∀ x ∈ R, vr x) → (bys R).count 10 = R.count 10
  | [], _ => rfl
  | x :: R, h => by
    have ih := bys_count R (fun y hy => h y (by simp [hy]))
    have hx := h x (by simp)
    rw [bys_cons, List.count_append, ih]
    by_cases e : x = 10
    · subst e
      have := encodeRune_ascii (c := 10) (by decide)
      have e2 : Go.Lib.encodeRune 10 = [10] := this
      rw [e2, List.count_cons_self]
      simp
      omega
    · have hn : (10 : UInt8) ∉ Go.Lib.encodeRune x := fun hm => e (mem_encodeRune hx (c := 10) (by decide) hm).1
      rw [List.count_eq_zero_of_not_mem hn, List.count_cons_of_ne e]
      omega
theorem rows_many {s : ByteArray} (h : mayB s = true) : (begins (rs s)).length = (rowsOf s).length := by
  have h1 := bys_count (rs s) (runes_vr s.data.toList)
  rw [mayB_bys h] at h1
  unfold begins rowsOf
  rw [List.length_cons, beginsF_count, List.length_map, rowsL_count, h1]
theorem cut_all {s : ByteArray} (h : mayB s = true) (a : Nat) : (runesBytes ((rs s).take a) ++ runesBytes ((rs s).drop a)).toList = s.toList := by
  have e : runesBytes ((rs s).take a) ++ runesBytes ((rs s).drop a) = s := by
    rw [runesBytes_mk, runesBytes_mk]
    show mkB _ ++ mkB _ = s
    have h1 : mkB (bys ((rs s).take a)) ++ mkB (bys ((rs s).drop a)) = mkB (bys ((rs s).take a) ++ bys ((rs s).drop a)) := by
      apply ByteArray.ext
      simp [mkB]
    rw [h1, ← bys_append, List.take_append_drop, mayB_bys h, mkB_data]
  rw [e]
theorem at_loop (L : List ByteArray) (a b c d : Int) (i : Nat) (hi : i ≤ 6000) (s : ByteArray) (h : mayB s = true) (hnext : Evt (fun k => quilllaw1_TextBack.l0 k ((i + 1 : Nat) : Int) L a b c d) true) :
    ∀ (n j : Nat), (rs s).length + 1 - j = n → j ≤ (rs s).length + 1 → Evt (fun k => quilllaw1_TextBack.l1 k i s (rs s).length (rowsOf s) j L a b c d) true := by
  have hz := small h
  have hR := rs_len hz
  have hw0 := inc i (by omega)
  have hout : ∀ j : Nat, ¬ (j ≤ (rs s).length ∧ j < 80) → Evt (fun k => quilllaw1_TextBack.l1 k i s (rs s).length (rowsOf s) j L a b c d) true := by
    intro j hj
    obtain ⟨k0, h0⟩ := hnext
    refine ⟨k0 + 2, fun k hk => ?_⟩
    obtain ⟨m, rfl⟩ : ∃ m, k = m + 2 := ⟨k - 2, by omega⟩
    show quilllaw1_TextBack.l1 (m + 2) i s (rs s).length (rowsOf s) j L a b c d = some true
    rw [quilllaw1_TextBack.l1]
    by_cases hjl : j ≤ (rs s).length
    · rw [if_pos (by omega), decide_eq_false (by omega), quilllaw1_TextBack.j4, if_neg (by simp), hw0]
      exact h0 m (by omega)
    · rw [if_neg (by omega), quilllaw1_TextBack.j4, if_neg (by simp), hw0]
      exact h0 m (by omega)
  intro n
  induction n with
  | zero => intro j hn hj; exact hout j (by omega)
  | succ n ih =>
    intro j hn hj
    by_cases hj80 : j < 80
    · have hjl : j ≤ (rs s).length := by omega
      have hw := inc j (by omega)
      obtain ⟨⟨b0, b1, b2, b3⟩, f0, f1, f2, f3⟩ := row_spec (rs s) (j : Int) (by omega) (by omega)
      have hrow := rowOf_lt (rs s) (j : Int)
      have hp : text_Place.f s j = some ((rowOf (begins (rs s)) (j : Int) : Int), (j : Int) - begOf (rs s) j, 0) := by
        unfold text_Place.f placeF
        rw [if_pos h, if_pos ⟨by omega, by omega⟩]
        rfl
      have ho : text_Offset.f s (rowOf (begins (rs s)) (j : Int) : Int) ((j : Int) - begOf (rs s) j) = some ((j : Int), 0) := by
        unfold text_Offset.f
        rw [if_pos ⟨h, by omega, by omega, by omega, by
          rw [Int.toNat_natCast]
          show (j : Int) - begOf (rs s) j ≤ finOf (rs s) j - begOf (rs s) j
          omega⟩]
        show some (begOf (rs s) j + ((j : Int) - begOf (rs s) j), (0 : Int)) = _
        rw [show begOf (rs s) j + ((j : Int) - begOf (rs s) j) = j by omega]
      have hc1 : text_Cut.f s 0 j = some (runesBytes ((rs s).take j), 0) := by
        unfold text_Cut.f cutF
        rw [if_pos h, if_pos ⟨⟨by omega, by omega⟩, ⟨by omega, by omega⟩, by omega⟩]
        simp
      have hc2 : text_Cut.f s j ((rs s).length : Int) = some (runesBytes ((rs s).drop j), 0) := by
        unfold text_Cut.f cutF
        rw [if_pos h, if_pos ⟨⟨by omega, by omega⟩, ⟨by omega, by omega⟩, by omega⟩]
        rw [Int.toNat_natCast, Int.toNat_natCast, List.take_of_length_le (by simp)]
      obtain ⟨r, hr, hr1, hr2⟩ : ∃ r, text_Rest.f s j = some (r, 0) ∧ r ≤ j ∧ (j : Int) - 1 ≤ r := by
        refine ⟨restOf (rs s) j, ?_, ?_⟩
        · unfold text_Rest.f restF
          rw [if_pos h, if_pos ⟨by omega, by omega⟩]
        · unfold restOf
          dsimp only
          split <;> omega
      have hsz1 := rb_size ((rs s).take j)
      have hsz2 := rb_size ((rs s).drop j)
      have hb1 := bys_le ((rs s).take j)
      have hb2 := bys_le ((rs s).drop j)
      rw [List.length_take] at hb1
      rw [List.length_drop] at hb2
      have hm := rows_many h
      have hcut := cut_all h j
      have hw1 : wrap64 ((j : Int) - 1) = (j : Int) - 1 := by rw [w64] <;> omega
      refine Evt.step (f := fun k => quilllaw1_TextBack.l1 k i s (rs s).length (rowsOf s) j L a b c d) (g := fun k => quilllaw1_TextBack.j4 k i s (rs s).length (rowsOf s) j true L a b c d) ?_ (fun k => ?_)
      · refine Evt.step (ih (j + 1) (by omega) (by omega)) (fun k => ?_)
        rw [quilllaw1_TextBack.j4, if_pos rfl, hp, Option.bind_some, ho, Option.bind_some, hc1, Option.bind_some, hc2, Option.bind_some, hr, Option.bind_some]
        have w00 : wrap64 (0 + 0) = 0 := (w64 (by omega) (by omega)).trans rfl
        simp only [num_f, Option.bind_some, w00, if_true]
        rw [if_pos (by omega), if_pos hcut, if_neg (by omega), hw1, if_neg (by omega), if_neg (by omega), hw]
      · rw [quilllaw1_TextBack.l1, if_pos (by omega), decide_eq_true (show (j : Int) < 80 by omega)]
    · exact hout j (by omega)
theorem l0_loop (L : List ByteArray) (a b c d : Int) (hs : ∀ s ∈ L, s.size ≤ 6000) (hl : L.length ≤ 6000) : ∀ (n i : Nat), L.length - i = n → i ≤ L.length → Evt (fun k => quilllaw1_TextBack.l0 k i L a b c d) true := by
  have hdone : ∀ i : Nat, ¬ (i < L.length ∧ i < 5) → Evt (fun k => quilllaw1_TextBack.l0 k i L a b c d) true := by
    intro i hi
    refine ⟨2, fun k hk => ?_⟩
    obtain ⟨m, rfl⟩ : ∃ m, k = m + 2 := ⟨k - 2, by omega⟩
    show quilllaw1_TextBack.l0 (m + 2) i L a b c d = some true
    rw [quilllaw1_TextBack.l0]
    by_cases hil : i < L.length
    · rw [if_pos (by omega), decide_eq_false (by omega), quilllaw1_TextBack.j1, if_neg (by simp), wakes_f]
      rfl
    · rw [if_neg (by omega), quilllaw1_TextBack.j1, if_neg (by simp), wakes_f]
      rfl
  intro n
  induction n with
  | zero => intro i hn hi; exact hdone i (by omega)
  | succ n ih =>
    intro i hn hi
    by_cases hi5 : i < 5
    · have hlt : i < L.length := by omega
      have hrd : rdOf ByteArray.empty L (i : Int) = L[i] := by simp [rdOf, hlt]
      have hz := hs L[i] (List.getElem_mem _)
      have hnext := ih (i + 1) (by omega) (by omega)
      have hw := inc i (by omega)
      cases hm : mayB L[i] with
      | true =>
        obtain ⟨k0, h0⟩ := at_loop L a b c d i (by omega) L[i] hm hnext ((rs L[i]).length + 1) 0 (by omega) (by omega)
        obtain ⟨k1, h1⟩ := tjoin_f (rowsOf L[i]) (rowsOf_size _ hz) (by have := rowsOf_len L[i] hz; have := small hm; have := rowsL_len L[i].data.toList; simp [rowsOf] at *; omega)
        refine ⟨k0 + k1 + 3, fun k hk => ?_⟩
        obtain ⟨m, rfl⟩ : ∃ m, k = m + 3 := ⟨k - 3, by omega⟩
        have g1 : text_Join.f (m + 1) (rowsOf L[i]) = some (L[i], 0) := by rw [← tjoin_rows hm]; exact h1 (m + 1) (by omega)
        show quilllaw1_TextBack.l0 (m + 3) i L a b c d = some true
        rw [quilllaw1_TextBack.l0, if_pos (by omega), decide_eq_true (show (i : Int) < 5 by omega), quilllaw1_TextBack.j1, if_pos rfl, if_pos (by omega), if_pos (by omega), hrd, len_f _ hz, hm, if_pos rfl, Option.bind_some, rows_f _ hz, hm, if_pos rfl, Option.bind_some]
        simp only [num_f, Option.bind_some, if_true, g1, bne_self_eq_false]
        rw [quilllaw1_TextBack.j2, if_neg (by simp)]
        exact h0 m (by omega)
      | false =>
        obtain ⟨k0, h0⟩ := hnext
        refine ⟨k0 + 2, fun k hk => ?_⟩
        obtain ⟨m, rfl⟩ : ∃ m, k = m + 2 := ⟨k - 2, by omega⟩
        show quilllaw1_TextBack.l0 (m + 2) i L a b c d = some true
        rw [quilllaw1_TextBack.l0, if_pos (by omega), decide_eq_true (show (i : Int) < 5 by omega), quilllaw1_TextBack.j1, if_pos rfl, if_pos (by omega), if_pos (by omega), hrd, len_f _ hz, hm, if_neg (by simp), Option.bind_some, rows_f _ hz, hm, if_neg (by simp), Option.bind_some]
        simp only [num_f, Option.bind_some]
        rw [if_neg (by decide), hw]
        exact h0 m (by omega)
    · exact hdone i (by omega)
theorem TextBack_pure (l : List ByteArray) (hsz : ∀ s ∈ l, s.size ≤ 140737488355327) (hl : l.length ≤ 140737488355327) (a b c d : Int) : ∃ k, quilllaw1_TextBack.f k l a b c d = some true := by
  obtain ⟨t, ⟨k0, h0⟩, ht⟩ := heavy1 l hsz hl a b c d
  cases t with
  | true => exact ⟨k0, by rw [quilllaw1_TextBack.f, show quilllaw1_Heavy.f k0 l a b c d = some true from h0 k0 (Nat.le_refl _)]; rfl⟩
  | false =>
    obtain ⟨h1, h2⟩ := ht rfl
    obtain ⟨k1, h1⟩ := l0_loop l a b c d h1 h2 l.length 0 rfl (by omega)
    refine ⟨k0 + k1, ?_⟩
    rw [quilllaw1_TextBack.f, show quilllaw1_Heavy.f (k0 + k1) l a b c d = some false from h0 _ (by omega), Option.bind_some, if_neg (by simp)]
    exact h1 _ (by omega)
end Go.Proofs.YtfiapekpeiapbaaDoor.Tb
