/- strings.IndexRune at an ASCII text and a rune that is not ASCII; pairs.kind. -/
import Derived.Test.YtfiapekpeiapbaaDoorPrims
import Derived.IntWalk
set_option linter.unusedVariables false
set_option linter.unusedSimpArgs false
namespace Go.Proofs.YtfiapekpeiapbaaDoor.F
open Go.RowKit Go.Proofs.YtfiapekpeiapbaaDoorW.PrintWords Go.Proofs.YtfiapekpeiapbaaDoorW.PrintLast Go.Proofs.YtfiapekpeiapbaaDoorW.PrintMore Go.Proofs.YtfiapekpeiapbaaDoor.Q

def Asc (s : ByteArray) : Prop := ∀ b ∈ s.data.toList, b.toNat < 128

set_option maxHeartbeats 2000000 in
set_option maxRecDepth 100000 in
theorem ir_bad (s : ByteArray) (r : Int) (w : World) (h1 : r < 0 ∨ 128 ≤ r) (h3 : (r == 65533) = false) (hv : Lib.validRune r = false) :
    Calls Tryd.prog 100 #[.string s, .int .i32 r] w fun e w' => e = .returned (.int .i64 (-1)) ∧ Below w.heap.size w w' := by
  have HV := Aside0.mk hv
  clear hv
  rcases h1 with h1 | h1
  · have d1 : decide (0 ≤ r) = false := decide_eq_false (by omega)
    go_enter Tryd.func100, Tryd.ntmps100
    go_wp2_with (go_at_call 106; refine (Tryd.utf8_ValidRune r _).mono ?_; rintro e w' ⟨rfl, rfl⟩; rw [HV.out])
    go_ret
    exact ⟨rfl, Below.refl _ _⟩
  · have d1 : decide (0 ≤ r) = true := decide_eq_true (by omega)
    have d2 : decide (r < 128) = false := decide_eq_false (by omega)
    go_enter Tryd.func100, Tryd.ntmps100
    go_wp2_with (go_at_call 106; refine (Tryd.utf8_ValidRune r _).mono ?_; rintro e w' ⟨rfl, rfl⟩; rw [HV.out])
    go_ret
    exact ⟨rfl, Below.refl _ _⟩

set_option maxHeartbeats 2000000 in
set_option maxRecDepth 100000 in
theorem ir_err (s : ByteArray) (w : World) (ha : Asc s) (hs : s.size ≤ 4000) :
    Calls Tryd.prog 100 #[.string s, .int .i32 65533] w fun e w' => e = .returned (.int .i64 (-1)) ∧ Below w.heap.size w w' := by
  have HA := Aside0.mk ha
  clear ha
  go_enter Tryd.func100, Tryd.ntmps100
  go_wp2
  go_loopw [] (fun w' => ∃ pos : Nat, w' = w.iter s pos ∧ Aside0 (pos ≤ s.size)) (fun w' => s.size - w'.iterPos w.heap.size)
  case atStart => exact ⟨0, rfl, ⟨by omega⟩⟩
  case round =>
    obtain ⟨pos, rfl, HP⟩ := hrel
    by_cases hp : pos < s.size
    · have hlt : (s[pos]'hp).toNat < 128 := HA.out _ (by simp [ByteArray.getElem_eq_getElem_data])
      have hnx : ∀ ty, (Instr.next (.pointer (some ⟨w.heap.size, 0, none⟩)) true ty).run Tryd.prog (w.iter s pos) = _ := fun ty => run_next_ascii w s pos ty hp hlt
      have hne : (((s[pos]'hp).toNat : Int) == 65533) = false := beq_eq_false_iff_ne.mpr (by omega)
      go_wp2
      go_roundw
      case rel => exact ⟨pos + 1, rfl, ⟨by omega⟩⟩
      case measure => simp; omega
    · have hnx : ∀ ty, (Instr.next (.pointer (some ⟨w.heap.size, 0, none⟩)) true ty).run Tryd.prog (w.iter s pos) = _ := fun ty => run_next_end w s pos ty hp
      go_wp2
      go_ret
      exact ⟨rfl, below_alloc (Below.refl _ _) _⟩

theorem indexByte_absent : ∀ (l : List UInt8) (c : UInt8), c ∉ l → Lib.indexByte l c = -1
  | [], c, _ => rfl
  | x :: l, c, h => by
    have h1 : x ≠ c := fun e => h (by simp [e])
    have h2 := indexByte_absent l c (fun hm => h (by simp [hm]))
    simp [Lib.indexByte, h1, h2]
theorem enc_far (r : Int) (h1 : 128 ≤ r) (rs : ByteArray) (h : Utf8.encode r = rs) : 2 ≤ rs.size ∧ rs.size ≤ 4 ∧ ∀ j (hj : j < rs.size), 128 ≤ (rs[j]'hj).toNat := by
  subst h
  have e := encode_eq r
  have hl := Lib.encodeRuneZ_length r
  have hsz : (Utf8.encode r).size = (Lib.encodeRune r).length := by rw [← e]; simp
  have hl2 : 2 ≤ (Lib.encodeRune r).length ∧ (Lib.encodeRune r).length ≤ 4 ∧ ∀ b ∈ Lib.encodeRune r, 128 ≤ b.toNat := by
    unfold Lib.encodeRune
    by_cases h2 : r ≤ 2047
    · rw [Lib.encodeRuneZ_two h1 h2]
      refine ⟨by simp, by simp, ?_⟩
      intro b hb
      simp only [List.map_cons, List.map_nil, List.mem_cons, List.not_mem_nil, or_false] at hb
      rcases hb with rfl | rfl <;> (rw [toNat_u8 (by omega) (by omega)]; omega)
    · by_cases h3 : (2048 ≤ r ∧ r < 55296) ∨ (57343 < r ∧ r ≤ 65535)
      · rw [Lib.encodeRuneZ_three h3]
        refine ⟨by simp, by simp, ?_⟩
        intro b hb
        simp only [List.map_cons, List.map_nil, List.mem_cons, List.not_mem_nil, or_false] at hb
        rcases hb with rfl | rfl | rfl <;> (rw [toNat_u8 (by omega) (by omega)]; omega)
      · by_cases h4 : 65536 ≤ r ∧ r ≤ 1114111
        · rw [Lib.encodeRuneZ_four h4.1 h4.2]
          refine ⟨by simp, by simp, ?_⟩
          intro b hb
          simp only [List.map_cons, List.map_nil, List.mem_cons, List.not_mem_nil, or_false] at hb
          rcases hb with rfl | rfl | rfl | rfl <;> (rw [toNat_u8 (by omega) (by omega)]; omega)
        · rw [Lib.encodeRuneZ_bad (by omega)]
          refine ⟨by simp, by simp, ?_⟩
          decide
  refine ⟨by omega, by omega, fun j hj => ?_⟩
  refine hl2.2.2 _ ?_
  rw [← e]
  simp [ByteArray.getElem_eq_getElem_data]
set_option maxHeartbeats 2000000 in
set_option maxRecDepth 100000 in
theorem ir_far (s : ByteArray) (r : Int) (w : World) (h1 : 128 ≤ r) (h3 : (r == 65533) = false) (hv : Lib.validRune r = true) (ha : Asc s) (hs : s.size ≤ 4000) :
    Calls Tryd.prog 100 #[.string s, .int .i32 r] w fun e w' => e = .returned (.int .i64 (-1)) ∧ Below w.heap.size w w' := by
  have HV := Aside0.mk hv
  have HA := Aside0.mk ha
  clear hv ha
  have d1 : decide (0 ≤ r) = true := decide_eq_true (by omega)
  have d2 : decide (r < 128) = false := decide_eq_false (by omega)
  go_enter Tryd.func100, Tryd.ntmps100
  go_wp2_with (go_at_call 106; refine (Tryd.utf8_ValidRune r _).mono ?_; rintro e w' ⟨rfl, rfl⟩; rw [HV.out])
  obtain ⟨rs, hrs⟩ : ∃ rs, Utf8.encode r = rs := ⟨_, rfl⟩
  have hb := enc_far r h1 rs hrs
  obtain ⟨n, hn⟩ : ∃ n : Nat, rs.size = n + 1 := ⟨rs.size - 1, by omega⟩
  have hl : n < rs.size := by clear hb; omega
  have HB := Aside0.mk (hb.2.2 n hl)
  have hn1 : 1 ≤ n := by have := hb.1; omega
  have hn2 : n ≤ 3 := by have := hb.2.1; omega
  clear hb
  go_step3
  go_wp2
  go_loop [9] (fun v => v = .int .i64 (n : Int)) (fun _ => 0)
  case atStart => rfl
  case round =>
    obtain rfl := hrel
    by_cases c : n < s.size
    · have HX := Aside0.mk (HA.out _ (show s[n] ∈ s.data.toList by simp [ByteArray.getElem_eq_getElem_data]))
      have ne : (((s[n]'c).toNat : Int) != ((rs[n]'hl).toNat : Int)) = true := by rw [bne_iff_ne]; have := HX.out; have := HB.out; omega
      have p2 : (n : Int) < (s.size : Int) := by omega
      have p3 : (n : Int) < (rs.size : Int) := by omega
      have hix : ∀ W, (Instr.index 9 (.string rs) (.int .i64 (n : Int))).run Tryd.prog W = .ok (.int .u8 ((rs[n]'hl).toNat : Int)) W := by
        intro W
        clear hn ne p2 d1 d2 h3
        go_simp
      clear p3
      have hIB : ∀ W, Calls Tryd.prog 92 #[.string (s.extract (n + 1) s.size), .int .u8 ((rs[n]'hl).toNat : Int)] W fun e w' => e = .returned (.int .i64 (-1)) ∧ w' = W := by
        intro W
        refine (Tryd.strings_IndexByte _ _ W).mono fun e w' ⟨h1, h2⟩ => ⟨h1.trans (ret_i ?_), h2⟩
        refine indexByte_absent _ _ fun hm => ?_
        have h4 : (s.extract (n + 1) s.size).data.toList = s.data.toList.drop (n + 1) := Lib.ext_list _ _
        rw [h4] at hm
        have := HA.out _ (List.mem_of_mem_drop hm)
        have h5 := HB.out
        simp at this
        omega
      have HIB := Aside0.mk hIB
      clear hIB
      go_wp2
      go_step3
      go_wp2
      go_quiet (fail)
      go_wp2
      have s4 : (n : Int) + 1 ≤ (s.size : Int) := by omega
      have s2 : (0 : Int) ≤ (n : Int) + 1 := by omega
      have s3 : ((n : Int) + 1).toNat = n + 1 := by omega
      have s1 : IntKind.i64.wrap ((n : Int) + 1) = (n : Int) + 1 := IntWalk.i64_in _ (by omega)
      go_quiet ((go_at_call 92; exact quiet_more (HIB.out _)))
      go_wp2
      rw [Exit.noGoto_ret]
      go_wp2
      rw [Exit.noGoto_ret]
      go_wp2
      go_ret
      exact ⟨rfl, pw_below_drewN (Below.refl _ _) _⟩
    · have d : decide (n < s.size) = false := decide_eq_false (by omega)
      go_wp2
      go_ret
      exact ⟨rfl, Below.refl _ _⟩

theorem ir_none (s : ByteArray) (r : Int) (w : World) (h1 : r < 0 ∨ 128 ≤ r) (ha : Asc s) (hs : s.size ≤ 4000) :
    Calls Tryd.prog 100 #[.string s, .int .i32 r] w fun e w' => e = .returned (.int .i64 (-1)) ∧ Below w.heap.size w w' := by
  by_cases h3 : r = 65533
  · subst h3; exact ir_err s w ha hs
  · have h3' : (r == 65533) = false := beq_eq_false_iff_ne.mpr h3
    cases hv : Lib.validRune r with
    | false => exact ir_bad s r w h1 h3' hv
    | true =>
      rcases h1 with h1 | h1
      · simp [Lib.validRune] at hv; omega
      · exact ir_far s r w h1 h3' hv ha hs

/-- Where a rune stands among three; -1: nowhere. -/
def in3 (a b c r : Int) : Int := if r = a then 0 else if r = b then 1 else if r = c then 2 else -1
theorem ir_three (a b c : UInt8) (ha : a.toNat < 128) (hb : b.toNat < 128) (hc : c.toNat < 128) (r : Int) (w : World) :
    Calls Tryd.prog 100 #[.string ⟨#[a, b, c]⟩, .int .i32 r] w fun e w' => e = .returned (.int .i64 (in3 a.toNat b.toNat c.toNat r)) ∧ Below w.heap.size w w' := by
  by_cases h : 0 ≤ r ∧ r < 128
  · refine (Tryd.strings_IndexRune_ascii _ r w h.1 h.2).mono fun e w' ⟨h1, h2⟩ => ⟨h1.trans (ret_i ?_), h2 ▸ Below.refl _ _⟩
    have hr : r.toNat.toUInt8.toNat = r.toNat := toNat_u8 h.1 (by omega)
    have key : ∀ x : UInt8, (x == r.toNat.toUInt8) = decide (r = x.toNat) := by
      intro x
      rw [Bool.eq_iff_iff, beq_iff_eq, decide_eq_true_eq]
      constructor
      · intro e; rw [e, hr]; omega
      · intro e; apply UInt8.toNat_inj.1; rw [hr]; omega
    simp only [Lib.indexByte, key, in3]
    by_cases e1 : r = a.toNat
    · simp [e1]
    · by_cases e2 : r = b.toNat
      · simp [e1, e2]
      · by_cases e3 : r = c.toNat
        · have n1 : ¬ ((c.toNat : Int) = a.toNat) := by omega
          have n2 : ¬ ((c.toNat : Int) = b.toNat) := by omega
          simp [e3, n1, n2]
        · simp [e1, e2, e3]
  · refine (ir_none ⟨#[a, b, c]⟩ r w (by omega) ?_ (by show (3 : Nat) ≤ 4000; omega)).mono fun e w' ⟨h1, h2⟩ => ⟨h1.trans (ret_i ?_), h2⟩
    · intro x hx
      simp only [List.mem_cons, List.not_mem_nil, or_false] at hx
      rcases hx with rfl | rfl | rfl <;> assumption
    · unfold in3; rw [if_neg (by omega), if_neg (by omega), if_neg (by omega)]

/-- Which kind of bracket a rune is, and which way its mate is. -/
def kindOf (r : Int) : Int × Int := if in3 40 91 123 r ≥ 0 then (in3 40 91 123 r, 1) else if in3 41 93 125 r ≥ 0 then (in3 41 93 125 r, -1) else (0, 0)
def pairs_kind.f (a0 : Int) : Option (Int × Int) := some (kindOf a0)
set_option maxHeartbeats 2000000 in
set_option maxRecDepth 100000 in
theorem pairs_kind.calls (a0 : Int) (r1 r2 : Int) (w : World) (h : pairs_kind.f a0 = some (r1, r2)) :
    Calls Tryd.prog 86 #[.int .i32 a0] w fun e w' => e = .returned (.tuple #[.int .i64 r1, .int .i64 r2]) ∧ Below w.heap.size w w' := by
  have h0 := Option.some.inj h
  have H0 := Aside0.mk h0
  clear h h0
  by_cases c : in3 40 91 123 a0 ≥ 0
  · have HH := Aside0.mk (show kindOf a0 = (in3 40 91 123 a0, 1) from if_pos c)
    have d : decide (0 ≤ in3 40 91 123 a0) = true := decide_eq_true c
    have HI := Aside0.mk (ir_three 40 91 123 (by decide) (by decide) (by decide) a0)
    go_enter Tryd.func86, Tryd.ntmps86
    go_wp2_with (go_at_call 100; refine (HI.out _).mono ?_; rintro e w' ⟨rfl, hb⟩; have HB := Aside0.mk hb; clear hb)
    go_ret2
    have e1 := H0.out
    rw [HH.out] at e1
    simp only [Prod.mk.injEq] at e1
    obtain ⟨rfl, rfl⟩ := e1
    exact ⟨rfl, HB.out⟩
  · have d : decide (0 ≤ in3 40 91 123 a0) = false := decide_eq_false c
    have HI := Aside0.mk (ir_three 40 91 123 (by decide) (by decide) (by decide) a0)
    have HI2 := Aside0.mk (ir_three 41 93 125 (by decide) (by decide) (by decide) a0)
    by_cases c2 : in3 41 93 125 a0 ≥ 0
    · have HH := Aside0.mk (show kindOf a0 = (in3 41 93 125 a0, -1) from (if_neg c).trans (if_pos c2))
      have d2 : decide (0 ≤ in3 41 93 125 a0) = true := decide_eq_true c2
      clear c c2
      go_enter Tryd.func86, Tryd.ntmps86
      go_wp2_with fail
      refine (HI.out _).mono ?_
      rintro e w1 ⟨rfl, hb⟩
      have HB := Aside0.mk hb
      clear hb
      go_wp2_with fail
      refine (HI2.out _).mono ?_
      rintro e w2 ⟨rfl, hb⟩
      have HB2 := Aside0.mk hb
      clear hb
      go_wp2_with fail
      go_ret2
      have e1 := H0.out
      rw [HH.out] at e1
      simp only [Prod.mk.injEq] at e1
      obtain ⟨rfl, rfl⟩ := e1
      exact ⟨rfl, below_then HB.out HB.out.size HB2.out⟩
    · have HH := Aside0.mk (show kindOf a0 = (0, 0) from (if_neg c).trans (if_neg c2))
      have d2 : decide (0 ≤ in3 41 93 125 a0) = false := decide_eq_false c2
      clear c c2
      go_enter Tryd.func86, Tryd.ntmps86
      go_wp2_with fail
      refine (HI.out _).mono ?_
      rintro e w1 ⟨rfl, hb⟩
      have HB := Aside0.mk hb
      clear hb
      go_wp2_with fail
      refine (HI2.out _).mono ?_
      rintro e w2 ⟨rfl, hb⟩
      have HB2 := Aside0.mk hb
      clear hb
      go_wp2_with fail
      go_ret2
      have e1 := H0.out
      rw [HH.out] at e1
      simp only [Prod.mk.injEq] at e1
      obtain ⟨rfl, rfl⟩ := e1
      exact ⟨rfl, below_then HB.out HB.out.size HB2.out⟩
end Go.Proofs.YtfiapekpeiapbaaDoor.F
