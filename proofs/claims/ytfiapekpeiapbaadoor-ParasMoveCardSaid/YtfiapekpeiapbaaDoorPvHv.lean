import Derived.Test.YtfiapekpeiapbaaDoorPvx1
import Derived.Test.YtfiapekpeiapbaaDoorLines
import Derived.Lib.IndexLaws
/-! Weights and 'May', in plain Lean (stage Pv). -/
namespace Go.Proofs.YtfiapekpeiapbaaDoor.Pv
open Go.RowKit Go.Proofs.YtfiapekpeiapbaaDoor.Q Go.Proofs.YtfiapekpeiapbaaDoor.F Go.Lib
open Go.Proofs.YtfiapekpeiapbaaDoorW.PrintWords Go.Proofs.YtfiapekpeiapbaaDoorW.PrintLast Go.Proofs.YtfiapekpeiapbaaDoorW.PrintMore

theorem texts_loop (xs : List ByteArray) (hsz : ∀ s ∈ xs, s.size ≤ 140737488355327) (hl : xs.length ≤ 140737488355327) : ∀ (n i : Nat) (acc : Int), xs.length - i = n → i ≤ xs.length → 0 ≤ acc → acc ≤ 140737489403903 →
    ∃ t, Evt (fun k => quilllaw0_Texts.l0 k xs acc i) t ∧ acc ≤ t ∧ (t ≤ 6000 → ∀ s ∈ xs.drop i, (s.size : Int) ≤ 6000) := by
  intro n
  induction n with
  | zero =>
    intro i acc hn hi h0 h1
    refine ⟨acc, Evt.step (Evt.const rfl) (fun k => ?_), by omega, fun _ s hs => ?_⟩
    · rw [quilllaw0_Texts.l0, if_neg (by omega)]
    · rw [List.drop_eq_nil_of_le (by omega)] at hs; cases hs
  | succ n ih =>
    intro i acc hn hi h0 h1
    have hlt : i < xs.length := by omega
    by_cases hb : acc < 1048576
    · have hrd : rdOf ByteArray.empty xs (i : Int) = xs[i] := by simp [rdOf, hlt]
      have hz := hsz xs[i] (List.getElem_mem _)
      obtain ⟨t, he, ht, hs⟩ := ih (i + 1) (acc + (xs[i].size : Int)) (by omega) (by omega) (by omega) (by omega)
      refine ⟨t, Evt.step he (fun k => ?_), by omega, fun h6 s hm => ?_⟩
      · rw [quilllaw0_Texts.l0, if_pos (by omega), if_pos hb, if_pos (by omega), hrd, w64 (by omega) (by omega), w64 (by omega) (by omega)]
        rfl
      · rw [List.drop_eq_getElem_cons hlt] at hm
        rcases List.mem_cons.1 hm with rfl | hm
        · omega
        · exact hs h6 s hm
    · refine ⟨acc, Evt.step (Evt.const rfl) (fun k => ?_), by omega, fun h6 => by omega⟩
      rw [quilllaw0_Texts.l0, if_pos (by omega), if_neg hb]
theorem heavy1 (xs : List ByteArray) (hsz : ∀ s ∈ xs, s.size ≤ 140737488355327) (hl : xs.length ≤ 140737488355327) (a b c d : Int) :
    ∃ t, Evt (fun k => quilllaw1_Heavy.f k xs a b c d) t ∧ (t = false → (∀ s ∈ xs, s.size ≤ 6000) ∧ xs.length ≤ 6000) := by
  obtain ⟨t, he, ht, hs⟩ := texts_loop xs hsz hl xs.length 0 xs.length rfl (by omega) (by omega) (by omega)
  refine ⟨decide (t > 6000), Evt.bind (f := fun k => quilllaw0_Texts.f k xs) he (Evt.const rfl), fun h => ?_⟩
  have h6 : t ≤ 6000 := by simpa using h
  refine ⟨fun s hm => ?_, by omega⟩
  have := hs h6 s (by simpa using hm)
  omega
theorem indexByte0 (l : List UInt8) : (Lib.indexByte l 0 < 0) ↔ ∀ j, j < l.length → l.getD j 0 ≠ 0 := by
  have hge := indexByte_ge l 0
  constructor
  · intro h j hj h0
    have hn := indexByte_none (l := l) (c := 0) (by omega) j
    rw [List.getD_eq_getElem?_getD, List.getElem?_eq_getElem hj] at h0
    rw [List.getElem?_eq_getElem hj] at hn
    exact hn (congrArg some h0)
  · intro h
    by_cases hlt : Lib.indexByte l 0 < 0
    · exact hlt
    · obtain ⟨o, ho⟩ : ∃ o : Nat, Lib.indexByte l 0 = o := ⟨(Lib.indexByte l 0).toNat, by omega⟩
      obtain ⟨h1, _⟩ := indexByte_some ho
      obtain ⟨hl, _⟩ := List.getElem?_eq_some_iff.1 h1
      exact absurd (by rw [List.getD_eq_getElem?_getD, h1]; rfl) (h o hl)
theorem refMay_loop (s : ByteArray) (h4 : s.size ≤ 4000) : ∀ (n i : Nat), s.size - i = n → i ≤ s.size → (∀ j, j < i → s.data.toList.getD j 0 ≠ 0) → Evt (fun k => quillref1_May.l0 k s i) (decide (Lib.indexByte s.data.toList 0 < 0)) := by
  intro n
  induction n with
  | zero =>
    intro i hn hi hz
    refine Evt.step (Evt.const rfl) (fun k => ?_)
    have : Lib.indexByte s.data.toList 0 < 0 := (indexByte0 _).2 (fun j hj => hz j (by simp at hj; omega))
    rw [quillref1_May.l0, if_neg (by omega), decide_eq_true this]
  | succ n ih =>
    intro i hn hi hz
    have hlt : i < s.size := by omega
    have hbt : bt s (i : Int) = ((s.data.toList.getD i 0).toNat : Int) := by
      unfold bt
      rw [dif_pos (by simpa using hlt)]
      simp [hlt]
      rfl
    by_cases hb : s.data.toList.getD i 0 = 0
    · refine Evt.step (Evt.const rfl) (fun k => ?_)
      have : ¬ Lib.indexByte s.data.toList 0 < 0 := fun h => (indexByte0 _).1 h i (by simpa using hlt) hb
      rw [quillref1_May.l0, if_pos (by omega), if_pos (by omega), hbt, hb, if_pos (by simp), decide_eq_false this]
    · refine Evt.step (ih (i + 1) (by omega) (by omega) (fun j hj => ?_)) (fun k => ?_)
      · by_cases hji : j = i
        · rw [hji]; exact hb
        · exact hz j (by omega)
      · have hne : ¬ ((s.data.toList.getD i 0).toNat : Int) = 0 := fun h => hb (UInt8.toNat_inj.1 (by simpa using h))
        rw [quillref1_May.l0, if_pos (by omega), if_pos (by omega), hbt, if_neg hne, w64 (by omega) (by omega)]
        rfl
theorem refMay (s : ByteArray) (hs : s.size ≤ 9223372036854775807) : Evt (fun k => quillref1_May.f k s) (mayB s) := by
  unfold mayB
  by_cases h4 : s.size ≤ 4000
  · have h1 : utf8_ValidString.f s = some (Lib.validD s.data.toList) := by rw [utf8_ValidString.f, if_pos hs]
    by_cases hv : Lib.validD s.data.toList = true
    · refine Evt.same (g := fun k => quillref1_May.j0 k s false) (Evt.step (refMay_loop s h4 s.size 0 rfl (by omega) (fun j hj => by omega)) (fun k => ?_)) (fun k => ?_) |>.same (fun k => rfl) |> fun h => by simpa [h4, hv] using h
      · rw [quillref1_May.j0, if_neg (by simp)]; rfl
      · rw [quillref1_May.f, if_neg (by omega), h1, hv]; rfl
    · have hv' : Lib.validD s.data.toList = false := by simpa using hv
      simp only [hv', Bool.false_and, Bool.and_false]
      refine Evt.same (g := fun k => quillref1_May.j0 k s true) (Evt.step (Evt.const rfl) (fun k => ?_)) (fun k => ?_)
      · rw [quillref1_May.j0, if_pos rfl]
      · rw [quillref1_May.f, if_neg (by omega), h1, hv']; rfl
  · simp only [h4, decide_false, Bool.false_and]
    refine Evt.same (g := fun k => quillref1_May.j0 k s true) (Evt.step (Evt.const rfl) (fun k => ?_)) (fun k => ?_)
    · rw [quillref1_May.j0, if_pos rfl]
    · rw [quillref1_May.f, if_pos (by omega)]

theorem cv_rs {s : ByteArray} (h : s.size ≤ 70368744177664) : cv_9_52.f s = some (rs s) := by rw [cv_9_52.f, if_pos h]; rfl
theorem rs_short {s : ByteArray} (h : s.size ≤ 70368744177664) : (rs s).length ≤ 4611686018427387904 := by
  have := runes_length_le s.data.toList
  simp at this
  unfold rs
  omega
theorem bys_append (a b : List Int) : bys (a ++ b) = bys a ++ bys b := by unfold bys; rw [List.flatMap_append]
theorem bys_le : ∀ xs : List Int, (bys xs).length ≤ 4 * xs.length
  | [] => by simp [bys]
  | x :: xs => by
    have h1 := (encodeRune_length x).2
    have h2 := bys_le xs
    have : bys (x :: xs) = Go.Lib.encodeRune x ++ bys xs := rfl
    rw [this, List.length_append, List.length_cons]
    omega
theorem rb_size (xs : List Int) : (runesBytes xs).size = (bys xs).length := by
  rw [← runesBytes_eq]; simp
theorem mayB_valid {s : ByteArray} (h : mayB s = true) : Lib.validD s.data.toList = true ∧ Lib.indexByte s.data.toList 0 < 0 := by
  unfold mayB at h
  simp only [Bool.and_eq_true, decide_eq_true_eq] at h
  exact h.2
theorem mayB_bys {s : ByteArray} (h : mayB s = true) : bys (rs s) = s.data.toList := bys_runes _ (mayB_valid h).1
theorem mayB_no0 {s : ByteArray} (h : mayB s = true) : (0 : Int) ∉ rs s := by
  intro h0
  have h1 := (mem_bys (runes_vr s.data.toList) (c := 0) (by decide)).2 h0
  rw [show bys (runes s.data.toList) = s.data.toList from mayB_bys h] at h1
  obtain ⟨i, hi, he⟩ := List.mem_iff_getElem.1 h1
  exact (indexByte0 _).1 (mayB_valid h).2 i hi (by rw [List.getD_eq_getElem?_getD, List.getElem?_eq_getElem hi, he]; rfl)
theorem whole_sub {s : ByteArray} (h : mayB s = true) {zs : List Int} (hz : ∀ x ∈ zs, x ∈ rs s) (hl : zs.length ≤ 4000) : Fa.text_Whole.f (runesBytes zs) = some true := by
  have hv : ∀ x ∈ zs, vr x := fun x hx => runes_vr _ x (hz x hx)
  have hsz := bys_le zs
  have hi : Lib.indexByte (runesBytes zs).data.toList 0 < 0 := by
    rw [indexByte0, runesBytes_eq]
    intro j hj h0
    have h1 : (0 : UInt8) ∈ bys zs := by
      rw [List.getD_eq_getElem?_getD, List.getElem?_eq_getElem hj] at h0
      have h0' : (bys zs)[j] = 0 := h0
      rw [← h0']; exact List.getElem_mem _
    have h2 := (mem_bys hv (c := 0) (by decide)).1 h1
    exact mayB_no0 h (hz _ h2)
  rw [Fa.text_Whole.f, utf8_ValidString.f, if_pos (by rw [rb_size]; omega), Option.bind_some, runesBytes_eq, validD_bys zs hv, if_pos rfl, strings_IndexByte.f, Option.bind_some]
  rw [show ((0 : Int).toNat.toUInt8) = 0 from rfl, decide_eq_true hi]
end Go.Proofs.YtfiapekpeiapbaaDoor.Pv
