import Derived.Test.YtfiapekpeiapbaaDoorText
import Derived.Lib.SplitLaws
/-! Rows of bytes, in plain Lean. -/
namespace Go.Proofs.YtfiapekpeiapbaaDoor.F
open Go.RowKit Go.Proofs.YtfiapekpeiapbaaDoor.Q Go.Lib
open Go.Proofs.YtfiapekpeiapbaaDoorW.PrintWords Go.Proofs.YtfiapekpeiapbaaDoorW.PrintLast Go.Proofs.YtfiapekpeiapbaaDoorW.PrintMore

/-- The rows of bytes. -/
def rowsL : List UInt8 → List (List UInt8)
  | [] => [[]]
  | c :: l => if c = 10 then [] :: rowsL l else (rowsL l).modifyHead (c :: ·)
theorem rowsL_ne : ∀ l, rowsL l ≠ []
  | [] => by simp [rowsL]
  | c :: l => by
    unfold rowsL
    split
    · simp
    · have := rowsL_ne l
      cases h : rowsL l with
      | nil => exact absurd h this
      | cons a b => simp
theorem rowsL_cons (l : List UInt8) : ∃ r rs, rowsL l = r :: rs := by
  cases h : rowsL l with
  | nil => exact absurd h (rowsL_ne l)
  | cons a b => exact ⟨a, b, rfl⟩
theorem rowsL_len : ∀ l, (rowsL l).length ≤ l.length + 1
  | [] => by simp [rowsL]
  | c :: l => by
    have := rowsL_len l
    unfold rowsL
    split <;> simp <;> omega
theorem index_ne {c : UInt8} {l : List UInt8} (h : c ≠ 10) : index (c :: l) [10] = if index l [10] == -1 then -1 else index l [10] + 1 := by
  have hp : ([10] : List UInt8).isPrefixOf (c :: l) = false := by simp [List.isPrefixOf, Ne.symm h]
  rw [index, hp]; simp
theorem index_eq {l : List UInt8} : index (10 :: l) [10] = 0 := by
  rw [index]; simp [List.isPrefixOf]
theorem splitK_ne {c : UInt8} {l : List UInt8} (h : c ≠ 10) (k : Nat) : splitK [10] 0 k (c :: l) = (splitK [10] 0 k l).modifyHead (c :: ·) := by
  cases k with
  | zero => simp [splitK]
  | succ k =>
    have hge := index_ge l [10]
    rw [splitK, splitK, index_ne h]
    by_cases hm : index l [10] = -1
    · simp [hm]
    · obtain ⟨j, hj⟩ : ∃ j : Nat, index l [10] = j := ⟨(index l [10]).toNat, by omega⟩
      rw [hj]
      have h1 : ¬ (((j : Int) == -1) = true) := by rw [beq_iff_eq]; omega
      have h2 : ¬ ((((j : Int) + 1) == -1) = true) := by rw [beq_iff_eq]; omega
      rw [if_neg h1, if_neg h2, if_neg h1]
      have e : ((j : Int) + 1).toNat = j + 1 := by omega
      rw [e]
      have e2 : j + 1 + [(10 : UInt8)].length = (j + [(10 : UInt8)].length) + 1 := by simp
      rw [e2, List.drop_succ_cons]
      simp
theorem splitK_rows : ∀ l, splitK [10] 0 (count l [10]) l = rowsL l
  | [] => by rw [count_one]; rfl
  | c :: l => by
    unfold rowsL
    by_cases h : c = 10
    · subst h
      rw [if_pos rfl, count_cons_eq, Nat.add_comm, splitK, index_eq, ← splitK_rows l]
      simp
    · rw [if_neg h, count_cons_ne c 10 l h, splitK_ne h, splitK_rows l]
theorem split_rows (s : ByteArray) : (splitB ⟨#[10]⟩ 0 (countB s ⟨#[10]⟩) s).map (·.data.toList) = rowsL s.data.toList := by
  rw [splitB_data]
  exact splitK_rows s.data.toList
def mkB (l : List UInt8) : ByteArray := ⟨l.toArray⟩
theorem mkB_size (l : List UInt8) : (mkB l).size = l.length := by
  show l.toArray.size = l.length
  simp
theorem mkB_data (s : ByteArray) : mkB s.data.toList = s := by
  apply ByteArray.ext
  simp [mkB]
/-- A text's rows. -/
def rowsOf (s : ByteArray) : List ByteArray := (rowsL s.data.toList).map mkB
theorem split_of (s : ByteArray) : splitB ⟨#[10]⟩ 0 (countB s ⟨#[10]⟩) s = rowsOf s := by
  unfold rowsOf
  rw [← split_rows, List.map_map]
  refine ((List.map_congr_left (fun b hb => ?_)).trans (List.map_id _)).symm
  exact mkB_data b
theorem split_f (s : ByteArray) (h : s.size < 4294967281) : strings_Split.f s ⟨#[10]⟩ = some (rowsOf s) := by
  unfold strings_Split.f
  rw [if_pos ⟨h, by decide, splitB_all ⟨#[10]⟩ (by decide) 0 _ s rfl⟩, split_of]
/-- Rows, joined. -/
def joinB (L : List ByteArray) : ByteArray := mkB (join (L.map (·.data.toList)) [10])
theorem rj_nil : join [] [10] = [] := rfl
theorem rj_one (a : List UInt8) : join [a] [10] = a := by simp [join]
theorem rj_cons (a b : List UInt8) (l : List (List UInt8)) : join (a :: b :: l) [10] = a ++ 10 :: join (b :: l) [10] := by
  simp [join, List.intercalate, List.intersperse]
theorem rows_join : ∀ (l : List UInt8), join (rowsL l) [10] = l
  | [] => by simp [rowsL, join]
  | c :: l => by
    have ih := rows_join l
    obtain ⟨r, rs, hr⟩ := rowsL_cons l
    rw [hr] at ih
    unfold rowsL
    by_cases h : c = 10
    · subst h
      rw [if_pos rfl, hr, rj_cons, ih]; rfl
    · rw [if_neg h, hr]
      cases rs with
      | nil =>
        rw [rj_one] at ih
        subst ih
        show join [c :: r] [10] = _
        rw [rj_one]
      | cons b rs =>
        rw [rj_cons] at ih
        show join ((c :: r) :: b :: rs) [10] = _
        rw [rj_cons, ← ih]; rfl
theorem join_rows (s : ByteArray) : joinB (rowsOf s) = s := by
  unfold joinB rowsOf
  rw [List.map_map]
  have : (rowsL s.data.toList).map ((fun x : ByteArray => x.data.toList) ∘ mkB) = rowsL s.data.toList := by
    refine (List.map_congr_left (fun b hb => ?_)).trans (List.map_id _)
    simp [mkB]
  rw [this, rows_join, mkB_data]
/-- May a row be? -/
def rowB (s : ByteArray) : Bool := Lib.validD s.data.toList && (!s.data.toList.contains 10 && !s.data.toList.contains 0)
theorem mem_join : ∀ (L : List (List UInt8)) (c : UInt8), c ∈ join L [10] ↔ (∃ l ∈ L, c ∈ l) ∨ (c = 10 ∧ 2 ≤ L.length)
  | [], c => by simp [join]
  | [a], c => by rw [rj_one]; simp
  | a :: b :: l, c => by
    rw [rj_cons, List.mem_append, List.mem_cons, mem_join (b :: l) c]
    simp only [List.mem_cons, List.length_cons]
    constructor
    · rintro (h | h | ⟨x, hx, hc⟩ | h)
      · exact .inl ⟨a, .inl rfl, h⟩
      · exact .inr ⟨h, by omega⟩
      · exact .inl ⟨x, .inr hx, hc⟩
      · exact .inr ⟨h.1, by omega⟩
    · rintro (⟨x, hx, hc⟩ | ⟨h, _⟩)
      · rcases hx with rfl | hx
        · exact .inl hc
        · exact .inr (.inr (.inl ⟨x, hx, hc⟩))
      · exact .inr (.inl h)
theorem valid_rows : ∀ (L : List (List UInt8)), Lib.validD (join L [10]) = true → ∀ l ∈ L, Lib.validD l = true
  | [], _, l, h => by cases h
  | [a], hv, l, h => by
    rw [rj_one] at hv
    obtain rfl : l = a := by simpa using h
    exact hv
  | a :: b :: L, hv, l, h => by
    rw [rj_cons] at hv
    obtain ⟨h1, h2, _⟩ := validD_parts (c := 10) (by decide) hv
    rcases List.mem_cons.1 h with rfl | h
    · exact h1
    · exact valid_rows (b :: L) h2 l h
theorem join_len : ∀ (L : List (List UInt8)), L ≠ [] → ((join L [10]).length : Int) = (L.length : Int) - 1 + ((L.map List.length).sum : Nat)
  | [], h => absurd rfl h
  | [a], _ => by rw [rj_one]; simp
  | a :: b :: L, _ => by
    rw [rj_cons, List.length_append, List.length_cons]
    have := join_len (b :: L) (by simp)
    simp only [List.map_cons, List.sum_cons, List.length_cons] at this ⊢
    omega
theorem indexByte_lt (l : List UInt8) (c : UInt8) : Lib.indexByte l c < 0 ↔ c ∉ l := by
  have hge := indexByte_ge l c
  constructor
  · intro h hm
    obtain ⟨i, hi, he⟩ := List.mem_iff_getElem.1 hm
    exact indexByte_none (l := l) (c := c) (by omega) i (by rw [List.getElem?_eq_getElem hi, he])
  · intro h
    by_cases hlt : Lib.indexByte l c < 0
    · exact hlt
    · obtain ⟨o, ho⟩ : ∃ o : Nat, Lib.indexByte l c = o := ⟨(Lib.indexByte l c).toNat, by omega⟩
      obtain ⟨h1, _⟩ := indexByte_some ho
      obtain ⟨hl, he⟩ := List.getElem?_eq_some_iff.1 h1
      exact absurd (he ▸ List.getElem_mem hl) h
theorem mayB_iff (s : ByteArray) : mayB s = true ↔ s.size ≤ 4000 ∧ Lib.validD s.data.toList = true ∧ (0 : UInt8) ∉ s.data.toList := by
  unfold mayB
  simp only [Bool.and_eq_true, decide_eq_true_eq, indexByte_lt]
/-- May the text of rows be, and the rows? -/
theorem may_rows (L : List ByteArray) : (L.all rowB && mayB (joinB L)) = (!(L.any fun s => s.data.toList.contains 10) && mayB (joinB L)) := by
  cases hm : mayB (joinB L) with
  | false => simp
  | true =>
    obtain ⟨_, hv, h0⟩ := (mayB_iff _).1 hm
    have hd : (joinB L).data.toList = join (L.map (·.data.toList)) [10] := by simp [joinB, mkB]
    rw [hd] at hv h0
    rw [Bool.and_true, Bool.and_true, Bool.eq_iff_iff]
    simp only [List.all_eq_true, Bool.not_eq_true', List.any_eq_false]
    constructor
    · intro h s hs
      have := h s hs
      simp only [rowB, Bool.and_eq_true, Bool.not_eq_true'] at this
      rw [this.2.1]; simp
    · intro h s hs
      have h1 : Lib.validD s.data.toList = true := valid_rows _ hv _ (List.mem_map_of_mem hs)
      have h2 : (0 : UInt8) ∉ s.data.toList := fun hc => h0 ((mem_join _ _).2 (.inl ⟨_, List.mem_map_of_mem hs, hc⟩))
      have h3 := h s hs
      simp only [rowB, Bool.and_eq_true, Bool.not_eq_true']
      exact ⟨h1, by simpa using h3, by simpa using h2⟩
end Go.Proofs.YtfiapekpeiapbaaDoor.F
