import Derived.Test.YtfiapekpeiapbaaDoorPzx3
import Derived.Test.YtfiapekpeiapbaaDoorEv
import Derived.Lib.IndexLaws
/-! The two patch laws, in plain Lean. -/
namespace Go.Proofs.YtfiapekpeiapbaaDoor.Pz
open Go.RowKit Go.Proofs.YtfiapekpeiapbaaDoor.Q Go.Proofs.YtfiapekpeiapbaaDoor.F Go.Lib
open Go.Proofs.YtfiapekpeiapbaaDoorW.PrintWords Go.Proofs.YtfiapekpeiapbaaDoorW.PrintLast Go.Proofs.YtfiapekpeiapbaaDoorW.PrintMore

theorem texts_loop (xs : List ByteArray) (hsz : ∀ s ∈ xs, s.size ≤ 140737488355327) (hl : xs.length ≤ 140737488355327) : ∀ (n i : Nat) (acc : Int), xs.length - i = n → i ≤ xs.length → 0 ≤ acc → acc ≤ 140737489403903 →
    ∃ t, Evt (fun k => quilllaw0_Texts.l0 k xs acc i) t ∧ acc ≤ t ∧ (t ≤ 6000 → ∀ s ∈ xs.drop i, (s.size : Int) ≤ 6000) := by
  intro n
  induction n with
  | zero =>
    intro i acc hn hi h0 h1
    refine ⟨acc, Evt.step (Evt.const rfl) (fun k => ?_), by omega, fun _ s hs => ?_⟩
    · rw [quilllaw0_Texts.l0, if_neg (by omega)]
    · rw [List.drop_eq_nil_of_le (by omega)] at hs; cases hs
  | succ n ih =>
    intro i acc hn hi h0 h1
    have hlt : i < xs.length := by omega
    by_cases hb : acc < 1048576
    · have hrd : rdOf ByteArray.empty xs (i : Int) = xs[i] := by simp [rdOf, hlt]
      have hz := hsz xs[i] (List.getElem_mem _)
      obtain ⟨t, he, ht, hs⟩ := ih (i + 1) (acc + (xs[i].size : Int)) (by omega) (by omega) (by omega) (by omega)
      refine ⟨t, Evt.step he (fun k => ?_), by omega, fun h6 s hm => ?_⟩
      · rw [quilllaw0_Texts.l0, if_pos (by omega), if_pos hb, if_pos (by omega), hrd, w64 (by omega) (by omega), w64 (by omega) (by omega)]
        rfl
      · rw [List.drop_eq_getElem_cons hlt] at hm
        rcases List.mem_cons.1 hm with rfl | hm
        · omega
        · exact hs h6 s hm
    · refine ⟨acc, Evt.step (Evt.const rfl) (fun k => ?_), by omega, fun h6 => by omega⟩
      rw [quilllaw0_Texts.l0, if_pos (by omega), if_neg hb]
theorem heavy1 (xs : List ByteArray) (hsz : ∀ s ∈ xs, s.size ≤ 140737488355327) (hl : xs.length ≤ 140737488355327) (a b c d : Int) :
    ∃ t, Evt (fun k => quilllaw1_Heavy.f k xs a b c d) t ∧ (t = false → (∀ s ∈ xs, s.size ≤ 6000) ∧ xs.length ≤ 6000) := by
  obtain ⟨t, he, ht, hs⟩ := texts_loop xs hsz hl xs.length 0 xs.length rfl (by omega) (by omega) (by omega)
  refine ⟨decide (t > 6000), Evt.bind (f := fun k => quilllaw0_Texts.f k xs) he (Evt.const rfl), fun h => ?_⟩
  have h6 : t ≤ 6000 := by simpa using h
  refine ⟨fun s hm => ?_, by omega⟩
  have := hs h6 s (by simpa using hm)
  omega
theorem heavy4_loop (l0 : List ByteArray) (hsz : ∀ s ∈ l0, s.size ≤ 140737488355327) (hl : l0.length ≤ 140737488355327) (a b c d e : Int) (xs : List S32) (hsz5 : ∀ s ∈ xs, s.f2.size ≤ 140737488355327) (hl5 : xs.length ≤ 140737488355327) :
    ∀ (n i : Nat) (acc : Int), xs.length - i = n → i ≤ xs.length → 0 ≤ acc → acc ≤ 140737489403903 →
    ∃ t, Evt (fun k => quilllaw4_Heavy.l0 k acc i l0 a b c d xs e) t ∧ (t = false → acc ≤ 6000 ∧ (∀ s ∈ xs.drop i, s.f2.size ≤ 6000) ∧ (∀ s ∈ l0, s.size ≤ 6000) ∧ l0.length ≤ 6000) := by
  obtain ⟨t1, he1, hs1⟩ := heavy1 l0 hsz hl a b c d
  have done : ∀ (acc : Int), ∃ t, Evt (fun k => if acc > 6000 then some true else (quilllaw1_Heavy.f k l0 a b c d).bind fun t106 => some t106) t ∧ (t = false → acc ≤ 6000 ∧ (∀ s ∈ l0, s.size ≤ 6000) ∧ l0.length ≤ 6000) := by
    intro acc
    by_cases h : acc > 6000
    · exact ⟨true, Evt.same (Evt.const rfl) (fun k => by rw [if_pos h]), fun h => by cases h⟩
    · refine ⟨t1, Evt.same (Evt.bind (g := fun _ t => some t) he1 (Evt.const rfl)) (fun k => by rw [if_neg h]), fun ht => ⟨by omega, hs1 ht⟩⟩
  intro n
  induction n with
  | zero =>
    intro i acc hn hi h0 h1
    obtain ⟨t, he, ht⟩ := done acc
    refine ⟨t, Evt.step he (fun k => ?_), fun h => ⟨(ht h).1, fun s hs => ?_, (ht h).2⟩⟩
    · rw [quilllaw4_Heavy.l0, if_neg (by omega)]
    · rw [List.drop_eq_nil_of_le (by omega)] at hs; cases hs
  | succ n ih =>
    intro i acc hn hi h0 h1
    have hlt : i < xs.length := by omega
    by_cases hb : acc < 1048576
    · have hrd : rd_T32 xs (i : Int) = xs[i] := by simp [rd_T32, hlt]
      have hz := hsz5 xs[i] (List.getElem_mem _)
      obtain ⟨t, he, ht⟩ := ih (i + 1) (acc + (xs[i].f2.size : Int)) (by omega) (by omega) (by omega) (by omega)
      refine ⟨t, Evt.step he (fun k => ?_), fun h => ⟨by have := (ht h).1; omega, fun s hm => ?_, (ht h).2.2⟩⟩
      · rw [quilllaw4_Heavy.l0, if_pos (by omega), if_pos hb, if_pos (by omega), hrd, w64 (by omega) (by omega), w64 (by omega) (by omega)]
        rfl
      · rw [List.drop_eq_getElem_cons hlt] at hm
        rcases List.mem_cons.1 hm with rfl | hm
        · have := (ht h).1; omega
        · exact (ht h).2.1 s hm
    · obtain ⟨t, he, ht⟩ := done acc
      refine ⟨t, Evt.step he (fun k => ?_), fun h => by have := (ht h).1; omega⟩
      rw [quilllaw4_Heavy.l0, if_pos (by omega), if_neg hb]
theorem heavy4 (l0 : List ByteArray) (hsz : ∀ s ∈ l0, s.size ≤ 140737488355327) (hl : l0.length ≤ 140737488355327) (a b c d e : Int) (xs : List S32) (hsz5 : ∀ s ∈ xs, s.f2.size ≤ 140737488355327) (hl5 : xs.length ≤ 140737488355327) :
    ∃ t, Evt (fun k => quilllaw4_Heavy.f k l0 a b c d xs e) t ∧ (t = false → (∀ s ∈ xs, s.f2.size ≤ 6000) ∧ xs.length ≤ 6000 ∧ (∀ s ∈ l0, s.size ≤ 6000) ∧ l0.length ≤ 6000) := by
  obtain ⟨t, he, ht⟩ := heavy4_loop l0 hsz hl a b c d e xs hsz5 hl5 xs.length 0 xs.length rfl (by omega) (by omega) (by omega)
  exact ⟨t, he, fun h => ⟨by simpa using (ht h).2.1, by have := (ht h).1; omega, (ht h).2.2⟩⟩

theorem indexByte0 (l : List UInt8) : (Lib.indexByte l 0 < 0) ↔ ∀ j, j < l.length → l.getD j 0 ≠ 0 := by
  have hge := indexByte_ge l 0
  constructor
  · intro h j hj h0
    have hn := indexByte_none (l := l) (c := 0) (by omega) j
    rw [List.getD_eq_getElem?_getD, List.getElem?_eq_getElem hj] at h0
    rw [List.getElem?_eq_getElem hj] at hn
    exact hn (congrArg some h0)
  · intro h
    by_cases hlt : Lib.indexByte l 0 < 0
    · exact hlt
    · obtain ⟨o, ho⟩ : ∃ o : Nat, Lib.indexByte l 0 = o := ⟨(Lib.indexByte l 0).toNat, by omega⟩
      obtain ⟨h1, _⟩ := indexByte_some ho
      obtain ⟨hl, _⟩ := List.getElem?_eq_some_iff.1 h1
      exact absurd (by rw [List.getD_eq_getElem?_getD, h1]; rfl) (h o hl)
theorem refMay_loop (s : ByteArray) (h4 : s.size ≤ 4000) : ∀ (n i : Nat), s.size - i = n → i ≤ s.size → (∀ j, j < i → s.data.toList.getD j 0 ≠ 0) → Evt (fun k => quillref1_May.l0 k s i) (decide (Lib.indexByte s.data.toList 0 < 0)) := by
  intro n
  induction n with
  | zero =>
    intro i hn hi hz
    refine Evt.step (Evt.const rfl) (fun k => ?_)
    have : Lib.indexByte s.data.toList 0 < 0 := (indexByte0 _).2 (fun j hj => hz j (by simp at hj; omega))
    rw [quillref1_May.l0, if_neg (by omega), decide_eq_true this]
  | succ n ih =>
    intro i hn hi hz
    have hlt : i < s.size := by omega
    have hbt : bt s (i : Int) = ((s.data.toList.getD i 0).toNat : Int) := by
      unfold bt
      rw [dif_pos (by simpa using hlt)]
      simp [hlt]
      rfl
    by_cases hb : s.data.toList.getD i 0 = 0
    · refine Evt.step (Evt.const rfl) (fun k => ?_)
      have : ¬ Lib.indexByte s.data.toList 0 < 0 := fun h => (indexByte0 _).1 h i (by simpa using hlt) hb
      rw [quillref1_May.l0, if_pos (by omega), if_pos (by omega), hbt, hb, if_pos (by simp), decide_eq_false this]
    · refine Evt.step (ih (i + 1) (by omega) (by omega) (fun j hj => ?_)) (fun k => ?_)
      · by_cases hji : j = i
        · rw [hji]; exact hb
        · exact hz j (by omega)
      · have hne : ¬ ((s.data.toList.getD i 0).toNat : Int) = 0 := fun h => hb (UInt8.toNat_inj.1 (by simpa using h))
        rw [quillref1_May.l0, if_pos (by omega), if_pos (by omega), hbt, if_neg hne, w64 (by omega) (by omega)]
        rfl
theorem refMay (s : ByteArray) (hs : s.size ≤ 9223372036854775807) : Evt (fun k => quillref1_May.f k s) (mayB s) := by
  unfold mayB
  by_cases h4 : s.size ≤ 4000
  · have h1 : utf8_ValidString.f s = some (Lib.validD s.data.toList) := by rw [utf8_ValidString.f, if_pos hs]
    by_cases hv : Lib.validD s.data.toList = true
    · refine Evt.same (g := fun k => quillref1_May.j0 k s false) (Evt.step (refMay_loop s h4 s.size 0 rfl (by omega) (fun j hj => by omega)) (fun k => ?_)) (fun k => ?_) |>.same (fun k => rfl) |> fun h => by simpa [h4, hv] using h
      · rw [quillref1_May.j0, if_neg (by simp)]; rfl
      · rw [quillref1_May.f, if_neg (by omega), h1, hv]; rfl
    · have hv' : Lib.validD s.data.toList = false := by simpa using hv
      simp only [hv', Bool.false_and, Bool.and_false]
      refine Evt.same (g := fun k => quillref1_May.j0 k s true) (Evt.step (Evt.const rfl) (fun k => ?_)) (fun k => ?_)
      · rw [quillref1_May.j0, if_pos rfl]
      · rw [quillref1_May.f, if_neg (by omega), h1, hv']; rfl
  · simp only [h4, decide_false, Bool.false_and]
    refine Evt.same (g := fun k => quillref1_May.j0 k s true) (Evt.step (Evt.const rfl) (fun k => ?_)) (fun k => ?_)
    · rw [quillref1_May.j0, if_pos rfl]
    · rw [quillref1_May.f, if_pos (by omega)]

/-- The smallest patch, on runes. -/
def btw (xs ys : List Int) : Int × Int × ByteArray :=
  (pfx xs ys, xs.length - pfx xs ys - sfx (pfx xs ys) xs ys, runesBytes ((ys.drop (pfx xs ys)).take (ys.length - pfx xs ys - sfx (pfx xs ys) xs ys)))
theorem rd_last {xs : List Int} {p i : Nat} (h : i < xs.length - p) : rd ((xs.drop p).take (xs.length - p - i)) ((xs.length - p - i - 1 : Nat) : Int) = xs.getD (xs.length - 1 - i) 0 := by
  unfold rd
  simp only [List.getD_eq_getElem?_getD, Int.toNat_natCast]
  rw [List.getElem?_take, if_pos (by omega), List.getElem?_drop]
  congr 2
  omega
theorem of_l1 (xs ys : List Int) (p : Nat) (hpx : p ≤ xs.length) (hpy : p ≤ ys.length) (hx : xs.length ≤ 4611686018427387904) (hy : ys.length ≤ 4611686018427387904) : ∀ (d i : Nat), sfx p xs ys - i = d → i ≤ sfx p xs ys →
    Evt (fun k => patch_Of.l1 k ((xs.drop p).take (xs.length - p - i)) ((ys.drop p).take (ys.length - p - i)) p) ((p : Int), (xs.length : Int) - p - sfx p xs ys, runesBytes ((ys.drop p).take (ys.length - p - sfx p xs ys))) := by
  intro d
  induction d with
  | zero =>
    intro i hd hi
    obtain rfl : i = sfx p xs ys := by omega
    have h2 := sfx_le p xs ys
    have hlx : ((xs.drop p).take (xs.length - p - sfx p xs ys)).length = xs.length - p - sfx p xs ys := by simp
    have hly : ((ys.drop p).take (ys.length - p - sfx p xs ys)).length = ys.length - p - sfx p xs ys := by simp
    have e : ((xs.length - p - sfx p xs ys : Nat) : Int) = (xs.length : Int) - p - sfx p xs ys := by omega
    refine Evt.step (Evt.const rfl) (fun k => ?_)
    simp only [patch_Of.l1, hlx, hly]
    by_cases h3 : sfx p xs ys < xs.length - p
    · rw [if_pos (by omega)]
      by_cases h4 : sfx p xs ys < ys.length - p
      · have hw1 : wrap64 (((xs.length - p - sfx p xs ys : Nat) : Int) - 1) = ((xs.length - p - sfx p xs ys - 1 : Nat) : Int) := by rw [w64] <;> omega
        have hw2 : wrap64 (((ys.length - p - sfx p xs ys : Nat) : Int) - 1) = ((ys.length - p - sfx p xs ys - 1 : Nat) : Int) := by rw [w64] <;> omega
        rw [if_pos (by omega), hw1, hw2, if_pos (by omega), if_pos (by omega), if_pos (by omega), if_pos (by omega), rd_last h3, rd_last h4, if_neg (sfx_end h3 h4), e]
      · rw [if_neg (by omega), e]
    · rw [if_neg (by omega), e]
  | succ d ih =>
    intro i hd hi
    have h2 := sfx_le p xs ys
    have h3 : i < xs.length - p := by omega
    have h4 : i < ys.length - p := by omega
    have hlx : ((xs.drop p).take (xs.length - p - i)).length = xs.length - p - i := by simp
    have hly : ((ys.drop p).take (ys.length - p - i)).length = ys.length - p - i := by simp
    have hw1 : wrap64 (((xs.length - p - i : Nat) : Int) - 1) = ((xs.length - p - i - 1 : Nat) : Int) := by rw [w64] <;> omega
    have hw2 : wrap64 (((ys.length - p - i : Nat) : Int) - 1) = ((ys.length - p - i - 1 : Nat) : Int) := by rw [w64] <;> omega
    refine Evt.step (ih (i + 1) (by omega) (by omega)) (fun k => ?_)
    simp only [patch_Of.l1, hlx, hly, hw1, hw2]
    rw [if_pos (by omega), if_pos (by omega), if_pos (by omega), if_pos (by omega), if_pos (by omega), if_pos (by omega), rd_last h3, rd_last h4, if_pos (sfx_lt (p := p) (i := i) (by omega)), if_pos (by omega), if_pos (by omega)]
    simp only [Int.toNat_natCast, List.take_take]
    rw [show min (xs.length - p - i - 1) (xs.length - p - i) = xs.length - p - (i + 1) by omega, show min (ys.length - p - i - 1) (ys.length - p - i) = ys.length - p - (i + 1) by omega]
theorem of_l0 (xs ys : List Int) (hx : xs.length ≤ 4611686018427387904) (hy : ys.length ≤ 4611686018427387904) : ∀ (d i : Nat), pfx xs ys - i = d → i ≤ pfx xs ys → Evt (fun k => patch_Of.l0 k xs ys i) (btw xs ys) := by
  have hp := pfx_le xs ys
  have hj : Evt (fun k => patch_Of.j1 k xs ys (pfx xs ys)) (btw xs ys) := by
    refine Evt.step (of_l1 xs ys (pfx xs ys) hp.1 hp.2 hx hy (sfx (pfx xs ys) xs ys) 0 rfl (by omega)) (fun k => ?_)
    rw [patch_Of.j1, if_pos (by omega), if_pos (by omega), if_pos (by omega), Nat.sub_zero, Nat.sub_zero, List.take_of_length_le (by simp), List.take_of_length_le (by simp), Int.toNat_natCast]
  intro d
  induction d with
  | zero =>
    intro i hd hi
    obtain rfl : i = pfx xs ys := by omega
    refine Evt.step hj (fun k => ?_)
    rw [patch_Of.l0]
    unfold mn
    by_cases h1 : pfx xs ys < xs.length ∧ pfx xs ys < ys.length
    · rw [if_pos (by split <;> omega), if_pos (by omega), if_pos (by omega), if_pos (by omega), if_neg (by simpa [rd] using pfx_end xs ys h1.1 h1.2)]
    · rw [if_neg (by split <;> omega)]
  | succ d ih =>
    intro i hd hi
    refine Evt.step (ih (i + 1) (by omega) (by omega)) (fun k => ?_)
    rw [patch_Of.l0]
    unfold mn
    rw [if_pos (by split <;> omega), if_pos (by omega), if_pos (by omega), if_pos (by omega), if_pos (by simpa [rd] using pfx_lt xs ys i (by omega)), w64 (by omega) (by omega)]
    rfl
theorem cv_rs {s : ByteArray} (h : s.size ≤ 70368744177664) : cv_9_52.f s = some (rs s) := by rw [cv_9_52.f, if_pos h]; rfl
theorem rs_short {s : ByteArray} (h : s.size ≤ 70368744177664) : (rs s).length ≤ 4611686018427387904 := by
  have := runes_length_le s.data.toList
  simp at this
  unfold rs
  omega
theorem of_f {a b : ByteArray} (ha : a.size ≤ 70368744177664) (hb : b.size ≤ 70368744177664) : Evt (fun k => patch_Of.f k a b) (btw (rs a) (rs b)) := by
  have := of_l0 (rs a) (rs b) (rs_short ha) (rs_short hb) (pfx (rs a) (rs b)) 0 rfl (by omega)
  exact this.same (fun k => by rw [patch_Of.f, cv_rs ha, cv_rs hb]; rfl)
/-- Between's answer. -/
def betwF (a b : ByteArray) : Int × Int × ByteArray × Int := if mayB a = true ∧ mayB b = true then ((btw (rs a) (rs b)).1, (btw (rs a) (rs b)).2.1, (btw (rs a) (rs b)).2.2, 0) else (0, 0, ⟨#[]⟩, 1)
theorem between_f {a b : ByteArray} (ha : a.size ≤ 70368744177664) (hb : b.size ≤ 70368744177664) : Evt (fun k => patch_Between.f k a b) (betwF a b) := by
  unfold betwF
  by_cases h1 : mayB a = true
  · by_cases h2 : mayB b = true
    · rw [if_pos ⟨h1, h2⟩]
      refine Evt.same (Evt.bind (g := fun _ bt134 => some (bt134.1, bt134.2.1, bt134.2.2, (0 : Int))) (of_f ha hb) (Evt.const rfl)) (fun k => ?_)
      rw [patch_Between.f, May_f, May_f, h1, h2]
      rfl
    · have h2' : mayB b = false := by simpa using h2
      rw [if_neg (fun h => h2 h.2)]
      refine Evt.same (Evt.const rfl) (fun k => ?_)
      rw [patch_Between.f, May_f, May_f, h1, h2']
      rfl
  · have h1' : mayB a = false := by simpa using h1
    rw [if_neg (fun h => h1 h.1)]
    refine Evt.same (Evt.const rfl) (fun k => ?_)
    rw [patch_Between.f, May_f, h1']
    rfl

theorem wakes_f : Evt (fun k => quilllaw4_wakes.f k) true := by
  have h1 : mayB (⟨#[97, 98, 99]⟩ : ByteArray) = true := by decide
  have h2 : mayB (⟨#[97, 120, 99]⟩ : ByteArray) = true := by decide
  have hb := between_f (a := ⟨#[97, 98, 99]⟩) (b := ⟨#[97, 120, 99]⟩) (by decide) (by decide)
  refine Evt.same (Evt.bind (g := fun _ bt175 => ((quilllaw4_num.f bt175.2.2.2).bind fun t180 => (if t180 = 0 then (some (bt175.1 == 1 && (bt175.2.1 == 1 && (bt175.2.2.1.toList == ([120] : List UInt8))))) else (some false)))) hb (Evt.const ?_)) (fun k => rfl)
  unfold betwF
  rw [if_pos ⟨h1, h2⟩]
  have e1 : btw (rs ⟨#[97, 98, 99]⟩) (rs ⟨#[97, 120, 99]⟩) = (1, 1, runesBytes [120]) := by
    rw [show rs ⟨#[97, 98, 99]⟩ = [97, 98, 99] from by kernel_rfl, show rs ⟨#[97, 120, 99]⟩ = [97, 120, 99] from by kernel_rfl]
    kernel_rfl
  have e2 : (runesBytes [120]).toList = [120] := by
    rw [runesBytes_mk, show bys [120] = [120] from by kernel_rfl]
    rw [ByteArray.toList_eq]
  rw [e1]
  show (if (0 : Int) = 0 then some ((1 : Int) == 1 && ((1 : Int) == 1 && ((runesBytes [120]).toList == ([120] : List UInt8)))) else some false) = some true
  rw [e2]
  rfl

theorem num_f (a : Int) : quilllaw4_num.f a = some a := rfl
end Go.Proofs.YtfiapekpeiapbaaDoor.Pz
