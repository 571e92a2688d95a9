/- order.Op, in plain Lean; its contract. -/
import Derived.Test.YtimecfelcjgpiaaOax2
set_option linter.unusedVariables false
set_option linter.unusedSimpArgs false
namespace Go.Proofs.Ytimecfelcjgpiaa.F
open Go.RowKit Go.Proofs.YtimecfelcjgpiaaW.PrintWords Go.Proofs.YtimecfelcjgpiaaW.PrintLast Go.Proofs.YtimecfelcjgpiaaW.PrintMore Go.Proofs.Ytimecfelcjgpiaa.Q

/-- May it be a rune of a text? -/
def runeB (r : Int) : Bool := decide (1 ≤ r) && decide (r ≤ 1114111) && !(decide (55296 ≤ r) && decide (r ≤ 57343))
def idB (t s : Int) : Bool := decide (1 ≤ t) && decide (t ≤ 10000) && (decide (0 ≤ s) && decide (s ≤ 4))
def lessB (t s t2 s2 : Int) : Bool := decide (t < t2) || (decide (t = t2) && decide (s < s2))
/-- An op's first eight numbers. -/
structure OpN where
  kind : Int
  time : Int
  site_ : Int
  atime : Int
  asite : Int
  rune : Int
  site : Int
  n : Int
def opB (o : OpN) (v : List Int) : Bool :=
  idB o.time o.site_ && (decide (1 ≤ o.site) && decide (o.site ≤ 4)) && (decide (1 ≤ o.n) && decide (o.n ≤ 2000)) && vecB v &&
    (if o.kind = 1 then ((o.atime == 0 && o.asite == 0) || (idB o.atime o.asite && lessB o.atime o.asite o.time o.site_)) && runeB o.rune
    else if o.kind = 2 then (o.atime == 0 && o.asite == 0) && (o.rune == 0) else false)
theorem between_f (a b c : Int) : Oa.order_between.f a b c = some (decide (b ≤ a) && decide (a ≤ c)) := by
  unfold Oa.order_between.f
  by_cases h : a ≥ b
  · rw [if_pos h, decide_eq_true (show b ≤ a from h), Bool.true_and]
  · rw [if_neg h, decide_eq_false (show ¬ b ≤ a from h), Bool.false_and]
theorem id_f (t s : Int) : Oa.order_id.f t s = some (idB t s) := by
  unfold Oa.order_id.f idB
  rw [between_f, between_f, Option.bind_some, Option.bind_some]
  by_cases h : (decide (1 ≤ t) && decide (t ≤ 10000)) = true
  · rw [if_pos h, h, Bool.true_and]
  · rw [if_neg h]
    rw [Bool.not_eq_true] at h
    rw [h, Bool.false_and]
theorem less_f (t s t2 s2 : Int) : Oa.order_Less.f t s t2 s2 = some (lessB t s t2 s2) := by
  unfold Oa.order_Less.f lessB
  by_cases h : t = t2
  · rw [if_pos h, decide_eq_true h, Bool.true_and, decide_eq_false (show ¬ t < t2 by omega), Bool.false_or]
  · rw [if_neg h, decide_eq_false h, Bool.false_and, Bool.or_false]
theorem valid_f (k : Nat) (r : Int) : Oa.utf8_ValidRune.f (k + 1) r = some (decide (0 ≤ r) && decide (r ≤ 1114111) && !(decide (55296 ≤ r) && decide (r ≤ 57343))) := by
  unfold Oa.utf8_ValidRune.f
  by_cases h0 : 0 ≤ r
  · rw [if_pos h0, Oa.utf8_ValidRune.j0]
    by_cases h1 : r < 55296
    · rw [if_pos (decide_eq_true h1)]
      simp; omega
    · rw [if_neg (by simp; omega)]
      by_cases h2 : 57343 < r
      · rw [if_pos h2]
        by_cases h3 : r ≤ 1114111
        · rw [if_pos h3]; simp; omega
        · rw [if_neg h3]; simp; omega
      · rw [if_neg h2]; simp; omega
  · rw [if_neg h0, Oa.utf8_ValidRune.j0, if_neg (by simp), if_neg (by omega)]
    simp; omega
theorem rune_f (k : Nat) (r : Int) : Oa.text_Rune.f (k + 1) r = some (runeB r) := by
  unfold Oa.text_Rune.f runeB
  by_cases h1 : r > 0
  · rw [if_pos h1]
    by_cases h2 : r ≤ 1114111
    · have hw : wrap32 r = r := by unfold wrap32; omega
      rw [if_pos h2, valid_f, Option.bind_some, hw, decide_eq_true (show 0 ≤ r by omega), decide_eq_true (show 1 ≤ r by omega)]
    · rw [if_neg h2, decide_eq_false h2]; simp
  · rw [if_neg h1, decide_eq_false (show ¬ 1 ≤ r by omega)]; simp
theorem j0_true (k : Nat) (a b c d e f g h : Int) (v : List Int) : Oa.order_Op.j0 (k + 1) true a b c d e f g h v = some false := by rw [Oa.order_Op.j0, if_pos rfl]
theorem op_f (k : Nat) (o : OpN) (v : List Int) : Oa.order_Op.f (k + 2) o.kind o.time o.site_ o.atime o.asite o.rune o.site o.n v = some (opB o v) := by
  unfold Oa.order_Op.f opB
  rw [id_f, Option.bind_some]
  cases h1 : idB o.time o.site_ with
  | false => rw [if_neg (by simp), j0_true]; simp
  | true =>
    rw [if_pos rfl, between_f, Option.bind_some]
    cases h2 : (decide (1 ≤ o.site) && decide (o.site ≤ 4)) with
    | false => rw [if_neg (by simp), j0_true]; simp
    | true =>
      rw [if_pos rfl, between_f, Option.bind_some]
      cases h3 : (decide (1 ≤ o.n) && decide (o.n ≤ 2000)) with
      | false => rw [if_neg (by simp), j0_true]; simp
      | true =>
        rw [if_pos rfl, order_Vector.f, Option.bind_some]
        cases h4 : vecB v with
        | false => rw [Bool.not_false, j0_true]; simp
        | true =>
          rw [Bool.not_true, Oa.order_Op.j0, if_neg (by simp)]
          simp only [Bool.true_and]
          by_cases k1 : o.kind = 1
          · rw [if_pos k1, if_pos k1]
            cases h5 : (o.atime == 0 && (o.asite == 0)) with
            | true => rw [if_pos rfl, rune_f, Option.bind_some, Bool.true_or, Bool.true_and]
            | false =>
              rw [if_neg (by simp), id_f, Option.bind_some, Bool.false_or]
              cases h6 : idB o.atime o.asite with
              | false => rw [if_neg (by simp)]; simp
              | true =>
                rw [if_pos rfl, less_f, Option.bind_some, Bool.true_and]
                cases h7 : lessB o.atime o.asite o.time o.site_ with
                | false => rw [if_neg (by simp)]; simp
                | true => rw [if_pos rfl, rune_f, Option.bind_some, Bool.true_and]
          · rw [if_neg k1, if_neg k1]
            by_cases k2 : o.kind = 2
            · rw [if_pos k2, if_pos k2]
              cases h5 : (o.atime == 0 && (o.asite == 0)) with
              | true => rw [if_pos rfl, Bool.true_and]
              | false => rw [if_neg (by simp), Bool.false_and]
            · rw [if_neg k2, if_neg k2]
/-- An op's value. -/
def OpN.cells (o : OpN) : Array Value := #[.int .i64 o.kind, .int .i64 o.time, .int .i64 o.site_, .int .i64 o.atime, .int .i64 o.asite, .int .i64 o.rune, .int .i64 o.site, .int .i64 o.n]
theorem Op_c (o : OpN) (A : Option Addr) (c : Nat) (v : List Int) (w : World) (hr : Kd.C (Kd.int .i64) w A v.length v) (hc : v.length ≤ c) :
    Calls Try.prog 49 #[.agg #[.int .i64 o.kind, .int .i64 o.time, .int .i64 o.site_, .int .i64 o.atime, .int .i64 o.asite, .int .i64 o.rune, .int .i64 o.site, .int .i64 o.n, .slice A v.length c]] w fun e w' => e = .returned (.bool (opB o v)) ∧ Below w.heap.size w w' :=
  Oa.order_Op.calls 2 _ _ _ _ _ _ _ _ A c v (opB o v) w hr hc (op_f 0 o v)
end Go.Proofs.Ytimecfelcjgpiaa.F
