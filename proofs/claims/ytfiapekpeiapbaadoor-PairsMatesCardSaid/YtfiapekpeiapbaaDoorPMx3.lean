-- printed by wip/tools/pr.py out of the translation; Lean checks it
import Derived.Test.YtfiapekpeiapbaaDoorPMx0
import Derived.Test.YtfiapekpeiapbaaDoorPMx1
import Derived.Test.YtfiapekpeiapbaaDoorPMx2
namespace Go.Proofs.YtfiapekpeiapbaaDoor.PM
open Go.Proofs.YtfiapekpeiapbaaDoor.F Go.Proofs.YtfiapekpeiapbaaDoor.Q Go.RowKit Go.Proofs.YtfiapekpeiapbaaDoorW.PrintWords Go.Proofs.YtfiapekpeiapbaaDoorW.PrintLast Go.Proofs.YtfiapekpeiapbaaDoorW.PrintMore
attribute [local go_sem] max2_int min2_int max_two min_two max_three min_three max_four min_four   -- for this text's walks alone
set_option linter.unusedVariables false
set_option linter.unusedSimpArgs false

/-! ### quilllaw14_PairsMates: function 10 -/
mutual
def quilllaw14_PairsMates.l0 : Nat → Int → List ByteArray → Int → Int → Int → Int → Int → Int → Int → Option (Bool)
  | 0, _, _, _, _, _, _, _, _, _ => none
  | k + 1, x3, x145000, x145001, x145002, x145003, x145004, x145005, x145006, x145007 => if x3 < (x145000.length : Int) then (quilllaw14_PairsMates.j1 k x3 (decide (x3 < 5)) x145000 x145001 x145002 x145003 x145004 x145005 x145006 x145007) else (quilllaw14_PairsMates.j1 k x3 false x145000 x145001 x145002 x145003 x145004 x145005 x145006 x145007)
def quilllaw14_PairsMates.j1 : Nat → Int → Bool → List ByteArray → Int → Int → Int → Int → Int → Int → Int → Option (Bool)
  | 0, _, _, _, _, _, _, _, _, _, _ => none
  | k + 1, x3, x39, x145000, x145001, x145002, x145003, x145004, x145005, x145006, x145007 => if x39 = true then (if 0 ≤ x3 then (if x3 < (x145000.length : Int) then ((cv_9_52.f (rdOf ByteArray.empty x145000 x3)).bind fun t148 => (if (t148.length : Int) > 120 then (quilllaw14_PairsMates.l0 k (wrap64 (x3 + 1)) x145000 x145001 x145002 x145003 x145004 x145005 x145006 x145007) else (quilllaw14_PairsMates.l1 k x3 (rdOf ByteArray.empty x145000 x3) t148 (-1) x145000 x145001 x145002 x145003 x145004 x145005 x145006 x145007))) else (none)) else (none)) else ((quilllaw14_wakes.f).bind fun t146 => (some t146))
def quilllaw14_PairsMates.l1 : Nat → Int → ByteArray → List Int → Int → List ByteArray → Int → Int → Int → Int → Int → Int → Int → Option (Bool)
  | 0, _, _, _, _, _, _, _, _, _, _, _, _ => none
  | k + 1, x3, x4, x5, x6, x145000, x145001, x145002, x145003, x145004, x145005, x145006, x145007 => if x6 ≤ (wrap64 ((x5.length : Int) + 1)) then ((quillref1_May.f k x4).bind fun t151 => (if t151 = true then ((quillref0_Num.f x6 (x5.length : Int)).bind fun t152 => (quilllaw14_PairsMates.j3 k x3 x4 x5 x6 t152 x145000 x145001 x145002 x145003 x145004 x145005 x145006 x145007)) else (quilllaw14_PairsMates.j3 k x3 x4 x5 x6 false x145000 x145001 x145002 x145003 x145004 x145005 x145006 x145007))) else (quilllaw14_PairsMates.l0 k (wrap64 (x3 + 1)) x145000 x145001 x145002 x145003 x145004 x145005 x145006 x145007)
def quilllaw14_PairsMates.j3 : Nat → Int → ByteArray → List Int → Int → Bool → List ByteArray → Int → Int → Int → Int → Int → Int → Int → Option (Bool)
  | 0, _, _, _, _, _, _, _, _, _, _, _, _, _ => none
  | k + 1, x3, x4, x5, x6, x7, x145000, x145001, x145002, x145003, x145004, x145005, x145006, x145007 => (pairs_Mate.f x4 x6).bind fun bt153 => ((pairs_Move.f x4 x6).bind fun bt155 => (if x7 = true then ((quillref12_Mate.f k x5 x6).bind fun t157 => (if t157 ≥ 0 then ((quillref12_Pair.f k x5 x6).bind fun t158 => (if t158 ≥ 0 then (quilllaw14_PairsMates.j4 k x3 x4 x5 x6 x7 bt153.1 bt153.2 bt155.1 bt155.2 0 0 t157 t158 x145000 x145001 x145002 x145003 x145004 x145005 x145006 x145007) else (quilllaw14_PairsMates.j4 k x3 x4 x5 x6 x7 bt153.1 bt153.2 bt155.1 bt155.2 0 6 t157 0 x145000 x145001 x145002 x145003 x145004 x145005 x145006 x145007))) else ((quillref12_Pair.f k x5 x6).bind fun t159 => (if t159 ≥ 0 then (quilllaw14_PairsMates.j4 k x3 x4 x5 x6 x7 bt153.1 bt153.2 bt155.1 bt155.2 6 0 0 t159 x145000 x145001 x145002 x145003 x145004 x145005 x145006 x145007) else (quilllaw14_PairsMates.j4 k x3 x4 x5 x6 x7 bt153.1 bt153.2 bt155.1 bt155.2 6 6 0 0 x145000 x145001 x145002 x145003 x145004 x145005 x145006 x145007))))) else (quilllaw14_PairsMates.j4 k x3 x4 x5 x6 x7 bt153.1 bt153.2 bt155.1 bt155.2 1 1 0 0 x145000 x145001 x145002 x145003 x145004 x145005 x145006 x145007)))
def quilllaw14_PairsMates.j4 : Nat → Int → ByteArray → List Int → Int → Bool → Int → Int → Int → Int → Int → Int → Int → Int → List ByteArray → Int → Int → Int → Int → Int → Int → Int → Option (Bool)
  | 0, _, _, _, _, _, _, _, _, _, _, _, _, _, _, _, _, _, _, _, _, _ => none
  | k + 1, x3, x4, x5, x6, x7, x8, x9, x10, x11, x12, x13, x14, x15, x145000, x145001, x145002, x145003, x145004, x145005, x145006, x145007 => (quilllaw14_num.f x9).bind fun t160 => (if t160 = x12 then ((quilllaw14_num.f x11).bind fun t161 => (if t161 = x13 then (if x8 = x14 then (quilllaw14_PairsMates.j5 k x3 x4 x5 x6 x7 (x10 != x15) x145000 x145001 x145002 x145003 x145004 x145005 x145006 x145007) else (quilllaw14_PairsMates.j5 k x3 x4 x5 x6 x7 true x145000 x145001 x145002 x145003 x145004 x145005 x145006 x145007)) else (quilllaw14_PairsMates.j5 k x3 x4 x5 x6 x7 true x145000 x145001 x145002 x145003 x145004 x145005 x145006 x145007))) else (quilllaw14_PairsMates.j5 k x3 x4 x5 x6 x7 true x145000 x145001 x145002 x145003 x145004 x145005 x145006 x145007))
def quilllaw14_PairsMates.j5 : Nat → Int → ByteArray → List Int → Int → Bool → Bool → List ByteArray → Int → Int → Int → Int → Int → Int → Int → Option (Bool)
  | 0, _, _, _, _, _, _, _, _, _, _, _, _, _, _ => none
  | k + 1, x3, x4, x5, x6, x7, x112, x145000, x145001, x145002, x145003, x145004, x145005, x145006, x145007 => if x112 = true then (some false) else (quilllaw14_PairsMates.l2 k x3 x4 x5 x6 x7 (([40, 91, 123, x145005] : List Int)) 0 x145000 x145001 x145002 x145003 x145004 x145005 x145006 x145007)
def quilllaw14_PairsMates.l2 : Nat → Int → ByteArray → List Int → Int → Bool → List Int → Int → List ByteArray → Int → Int → Int → Int → Int → Int → Int → Option (Bool)
  | 0, _, _, _, _, _, _, _, _, _, _, _, _, _, _, _ => none
  | k + 1, x3, x4, x5, x6, x7, x18, x19, x145000, x145001, x145002, x145003, x145004, x145005, x145006, x145007 => if x19 < (x18.length : Int) then (if 0 ≤ x19 then ((pairs_Around.f x4 x6 (rd x18 x19) (wrap64 (1 + (Int.tmod (wrap64 ((wrap64 (x6 + x19)) + 2)) 2)))).bind fun bt166 => (if x7 = true then (if (rd x18 x19) = 40 then (quilllaw14_PairsMates.j7 k x3 x4 x5 x6 x7 1 x18 x19 (wrap64 (1 + (Int.tmod (wrap64 ((wrap64 (x6 + x19)) + 2)) 2))) bt166.1 bt166.2.1 bt166.2.2 0 0 true x145000 x145001 x145002 x145003 x145004 x145005 x145006 x145007) else (if (rd x18 x19) = 91 then (quilllaw14_PairsMates.j7 k x3 x4 x5 x6 x7 1 x18 x19 (wrap64 (1 + (Int.tmod (wrap64 ((wrap64 (x6 + x19)) + 2)) 2))) bt166.1 bt166.2.1 bt166.2.2 0 0 true x145000 x145001 x145002 x145003 x145004 x145005 x145006 x145007) else (quilllaw14_PairsMates.j7 k x3 x4 x5 x6 x7 1 x18 x19 (wrap64 (1 + (Int.tmod (wrap64 ((wrap64 (x6 + x19)) + 2)) 2))) bt166.1 bt166.2.1 bt166.2.2 0 0 ((rd x18 x19) == 123) x145000 x145001 x145002 x145003 x145004 x145005 x145006 x145007))) else (quilllaw14_PairsMates.j7 k x3 x4 x5 x6 x7 1 x18 x19 (wrap64 (1 + (Int.tmod (wrap64 ((wrap64 (x6 + x19)) + 2)) 2))) bt166.1 bt166.2.1 bt166.2.2 0 0 false x145000 x145001 x145002 x145003 x145004 x145005 x145006 x145007))) else (none)) else (quilllaw14_PairsMates.l1 k x3 x4 x5 (wrap64 (x6 + 1)) x145000 x145001 x145002 x145003 x145004 x145005 x145006 x145007)
def quilllaw14_PairsMates.j7 : Nat → Int → ByteArray → List Int → Int → Bool → Int → List Int → Int → Int → Int → Int → Int → Int → Int → Bool → List ByteArray → Int → Int → Int → Int → Int → Int → Int → Option (Bool)
  | 0, _, _, _, _, _, _, _, _, _, _, _, _, _, _, _, _, _, _, _, _, _, _, _ => none
  | k + 1, x3, x4, x5, x6, x7, x12, x18, x19, x20, x21, x22, x23, x24, x25, x161, x145000, x145001, x145002, x145003, x145004, x145005, x145006, x145007 => if x161 = true then (if 0 ≤ x19 then (if x19 < (x18.length : Int) then ((quillref12_Around.f k x5 x6 (rd x18 x19) x20).bind fun bt173 => (if bt173.1 ≥ 0 then ((quilllaw14_num.f x23).bind fun t175 => (if t175 = 0 then (if x21 = bt173.1 then (if x22 = bt173.2 then (quilllaw14_PairsMates.l2 k x3 x4 x5 x6 x7 x18 (wrap64 (x19 + 1)) x145000 x145001 x145002 x145003 x145004 x145005 x145006 x145007) else (some false)) else (some false)) else (some false))) else ((quilllaw14_num.f x23).bind fun t176 => (if t176 = 6 then (if x21 = x24 then (if x22 = x25 then (quilllaw14_PairsMates.l2 k x3 x4 x5 x6 x7 x18 (wrap64 (x19 + 1)) x145000 x145001 x145002 x145003 x145004 x145005 x145006 x145007) else (some false)) else (some false)) else (some false))))) else (none)) else (none)) else ((quilllaw14_num.f x23).bind fun t177 => (if t177 = x12 then (if x21 = x24 then (if x22 = x25 then (quilllaw14_PairsMates.l2 k x3 x4 x5 x6 x7 x18 (wrap64 (x19 + 1)) x145000 x145001 x145002 x145003 x145004 x145005 x145006 x145007) else (some false)) else (some false)) else (some false)))
end
def quilllaw14_PairsMates.f (k : Nat) (l0_0 : List ByteArray) (a0_1 : Int) (a0_2 : Int) (a0_3 : Int) (a0_4 : Int) (a0_5 : Int) (a0_6 : Int) (a0_7 : Int) : Option (Bool) := (quilllaw10_Heavy.f k l0_0 a0_1 a0_2 a0_3 a0_4 a0_5 a0_6 a0_7).bind fun t145 => (if t145 = true then (some true) else (quilllaw14_PairsMates.l0 k 0 l0_0 a0_1 a0_2 a0_3 a0_4 a0_5 a0_6 a0_7))
theorem quilllaw14_PairsMates.mono_l : ∀ k, (∀ y0 y1 y2 y3 y4 y5 y6 y7 y8, LeO (quilllaw14_PairsMates.l0 k y0 y1 y2 y3 y4 y5 y6 y7 y8) (quilllaw14_PairsMates.l0 (k + 1) y0 y1 y2 y3 y4 y5 y6 y7 y8)) ∧ (∀ y0 y1 y2 y3 y4 y5 y6 y7 y8 y9, LeO (quilllaw14_PairsMates.j1 k y0 y1 y2 y3 y4 y5 y6 y7 y8 y9) (quilllaw14_PairsMates.j1 (k + 1) y0 y1 y2 y3 y4 y5 y6 y7 y8 y9)) ∧ (∀ y0 y1 y2 y3 y4 y5 y6 y7 y8 y9 y10 y11, LeO (quilllaw14_PairsMates.l1 k y0 y1 y2 y3 y4 y5 y6 y7 y8 y9 y10 y11) (quilllaw14_PairsMates.l1 (k + 1) y0 y1 y2 y3 y4 y5 y6 y7 y8 y9 y10 y11)) ∧ (∀ y0 y1 y2 y3 y4 y5 y6 y7 y8 y9 y10 y11 y12, LeO (quilllaw14_PairsMates.j3 k y0 y1 y2 y3 y4 y5 y6 y7 y8 y9 y10 y11 y12) (quilllaw14_PairsMates.j3 (k + 1) y0 y1 y2 y3 y4 y5 y6 y7 y8 y9 y10 y11 y12)) ∧ (∀ y0 y1 y2 y3 y4 y5 y6 y7 y8 y9 y10 y11 y12 y13 y14 y15 y16 y17 y18 y19 y20, LeO (quilllaw14_PairsMates.j4 k y0 y1 y2 y3 y4 y5 y6 y7 y8 y9 y10 y11 y12 y13 y14 y15 y16 y17 y18 y19 y20) (quilllaw14_PairsMates.j4 (k + 1) y0 y1 y2 y3 y4 y5 y6 y7 y8 y9 y10 y11 y12 y13 y14 y15 y16 y17 y18 y19 y20)) ∧ (∀ y0 y1 y2 y3 y4 y5 y6 y7 y8 y9 y10 y11 y12 y13, LeO (quilllaw14_PairsMates.j5 k y0 y1 y2 y3 y4 y5 y6 y7 y8 y9 y10 y11 y12 y13) (quilllaw14_PairsMates.j5 (k + 1) y0 y1 y2 y3 y4 y5 y6 y7 y8 y9 y10 y11 y12 y13)) ∧ (∀ y0 y1 y2 y3 y4 y5 y6 y7 y8 y9 y10 y11 y12 y13 y14, LeO (quilllaw14_PairsMates.l2 k y0 y1 y2 y3 y4 y5 y6 y7 y8 y9 y10 y11 y12 y13 y14) (quilllaw14_PairsMates.l2 (k + 1) y0 y1 y2 y3 y4 y5 y6 y7 y8 y9 y10 y11 y12 y13 y14)) ∧ (∀ y0 y1 y2 y3 y4 y5 y6 y7 y8 y9 y10 y11 y12 y13 y14 y15 y16 y17 y18 y19 y20 y21 y22, LeO (quilllaw14_PairsMates.j7 k y0 y1 y2 y3 y4 y5 y6 y7 y8 y9 y10 y11 y12 y13 y14 y15 y16 y17 y18 y19 y20 y21 y22) (quilllaw14_PairsMates.j7 (k + 1) y0 y1 y2 y3 y4 y5 y6 y7 y8 y9 y10 y11 y12 y13 y14 y15 y16 y17 y18 y19 y20 y21 y22))
  | 0 => ⟨fun _ _ _ _ _ _ _ _ _ r h => by simp [quilllaw14_PairsMates.l0] at h, fun _ _ _ _ _ _ _ _ _ _ r h => by simp [quilllaw14_PairsMates.j1] at h, fun _ _ _ _ _ _ _ _ _ _ _ _ r h => by simp [quilllaw14_PairsMates.l1] at h, fun _ _ _ _ _ _ _ _ _ _ _ _ _ r h => by simp [quilllaw14_PairsMates.j3] at h, fun _ _ _ _ _ _ _ _ _ _ _ _ _ _ _ _ _ _ _ _ _ r h => by simp [quilllaw14_PairsMates.j4] at h, fun _ _ _ _ _ _ _ _ _ _ _ _ _ _ r h => by simp [quilllaw14_PairsMates.j5] at h, fun _ _ _ _ _ _ _ _ _ _ _ _ _ _ _ r h => by simp [quilllaw14_PairsMates.l2] at h, fun _ _ _ _ _ _ _ _ _ _ _ _ _ _ _ _ _ _ _ _ _ _ _ r h => by simp [quilllaw14_PairsMates.j7] at h⟩
  | k + 1 => by
    obtain ⟨ih0, ih1, ih2, ih3, ih4, ih5, ih6, ih7⟩ := quilllaw14_PairsMates.mono_l k
    refine ⟨?_, ?_, ?_, ?_, ?_, ?_, ?_, ?_⟩
    · intro y0 y1 y2 y3 y4 y5 y6 y7 y8
      unfold quilllaw14_PairsMates.l0
      repeat' first
      | (with_reducible exact ih0 _ _ _ _ _ _ _ _ _)
      | (with_reducible exact ih1 _ _ _ _ _ _ _ _ _ _)
      | (with_reducible exact ih2 _ _ _ _ _ _ _ _ _ _ _ _)
      | (with_reducible exact ih3 _ _ _ _ _ _ _ _ _ _ _ _ _)
      | (with_reducible exact ih4 _ _ _ _ _ _ _ _ _ _ _ _ _ _ _ _ _ _ _ _ _)
      | (with_reducible exact ih5 _ _ _ _ _ _ _ _ _ _ _ _ _ _)
      | (with_reducible exact ih6 _ _ _ _ _ _ _ _ _ _ _ _ _ _ _)
      | (with_reducible exact ih7 _ _ _ _ _ _ _ _ _ _ _ _ _ _ _ _ _ _ _ _ _ _ _)
      | (with_reducible exact quilllaw10_Heavy.mono _ _ _ _ _ _ _ _ _)
      | (with_reducible exact quillref12_Around.mono _ _ _ _ _)
      | (with_reducible exact quillref12_Mate.mono _ _ _)
      | (with_reducible exact quillref12_Pair.mono _ _ _)
      | (with_reducible exact quillref1_May.mono _ _)
      | (with_reducible exact LeO.refl _)
      | (with_reducible exact LeO.none _)
      | (with_reducible refine LeO.ite ?_ ?_)
      | (with_reducible refine LeO.bind ?_ (fun _ => ?_))
      | exact ih0 _ _ _ _ _ _ _ _ _
      | exact ih1 _ _ _ _ _ _ _ _ _ _
      | exact ih2 _ _ _ _ _ _ _ _ _ _ _ _
      | exact ih3 _ _ _ _ _ _ _ _ _ _ _ _ _
      | exact ih4 _ _ _ _ _ _ _ _ _ _ _ _ _ _ _ _ _ _ _ _ _
      | exact ih5 _ _ _ _ _ _ _ _ _ _ _ _ _ _
      | exact ih6 _ _ _ _ _ _ _ _ _ _ _ _ _ _ _
      | exact ih7 _ _ _ _ _ _ _ _ _ _ _ _ _ _ _ _ _ _ _ _ _ _ _
      | exact quilllaw10_Heavy.mono _ _ _ _ _ _ _ _ _
      | exact quillref12_Around.mono _ _ _ _ _
      | exact quillref12_Mate.mono _ _ _
      | exact quillref12_Pair.mono _ _ _
      | exact quillref1_May.mono _ _
      | exact LeO.none _
      | refine LeO.ite ?_ ?_
      | refine LeO.bind ?_ (fun _ => ?_)
    · intro y0 y1 y2 y3 y4 y5 y6 y7 y8 y9
      unfold quilllaw14_PairsMates.j1
      repeat' first
      | (with_reducible exact ih0 _ _ _ _ _ _ _ _ _)
      | (with_reducible exact ih1 _ _ _ _ _ _ _ _ _ _)
      | (with_reducible exact ih2 _ _ _ _ _ _ _ _ _ _ _ _)
      | (with_reducible exact ih3 _ _ _ _ _ _ _ _ _ _ _ _ _)
      | (with_reducible exact ih4 _ _ _ _ _ _ _ _ _ _ _ _ _ _ _ _ _ _ _ _ _)
      | (with_reducible exact ih5 _ _ _ _ _ _ _ _ _ _ _ _ _ _)
      | (with_reducible exact ih6 _ _ _ _ _ _ _ _ _ _ _ _ _ _ _)
      | (with_reducible exact ih7 _ _ _ _ _ _ _ _ _ _ _ _ _ _ _ _ _ _ _ _ _ _ _)
      | (with_reducible exact quilllaw10_Heavy.mono _ _ _ _ _ _ _ _ _)
      | (with_reducible exact quillref12_Around.mono _ _ _ _ _)
      | (with_reducible exact quillref12_Mate.mono _ _ _)
      | (with_reducible exact quillref12_Pair.mono _ _ _)
      | (with_reducible exact quillref1_May.mono _ _)
      | (with_reducible exact LeO.refl _)
      | (with_reducible exact LeO.none _)
      | (with_reducible refine LeO.ite ?_ ?_)
      | (with_reducible refine LeO.bind ?_ (fun _ => ?_))
      | exact ih0 _ _ _ _ _ _ _ _ _
      | exact ih1 _ _ _ _ _ _ _ _ _ _
      | exact ih2 _ _ _ _ _ _ _ _ _ _ _ _
      | exact ih3 _ _ _ _ _ _ _ _ _ _ _ _ _
      | exact ih4 _ _ _ _ _ _ _ _ _ _ _ _ _ _ _ _ _ _ _ _ _
      | exact ih5 _ _ _ _ _ _ _ _ _ _ _ _ _ _
      | exact ih6 _ _ _ _ _ _ _ _ _ _ _ _ _ _ _
      | exact ih7 _ _ _ _ _ _ _ _ _ _ _ _ _ _ _ _ _ _ _ _ _ _ _
      | exact quilllaw10_Heavy.mono _ _ _ _ _ _ _ _ _
      | exact quillref12_Around.mono _ _ _ _ _
      | exact quillref12_Mate.mono _ _ _
      | exact quillref12_Pair.mono _ _ _
      | exact quillref1_May.mono _ _
      | exact LeO.none _
      | refine LeO.ite ?_ ?_
      | refine LeO.bind ?_ (fun _ => ?_)
    · intro y0 y1 y2 y3 y4 y5 y6 y7 y8 y9 y10 y11
      unfold quilllaw14_PairsMates.l1
      repeat' first
      | (with_reducible exact ih0 _ _ _ _ _ _ _ _ _)
      | (with_reducible exact ih1 _ _ _ _ _ _ _ _ _ _)
      | (with_reducible exact ih2 _ _ _ _ _ _ _ _ _ _ _ _)
      | (with_reducible exact ih3 _ _ _ _ _ _ _ _ _ _ _ _ _)
      | (with_reducible exact ih4 _ _ _ _ _ _ _ _ _ _ _ _ _ _ _ _ _ _ _ _ _)
      | (with_reducible exact ih5 _ _ _ _ _ _ _ _ _ _ _ _ _ _)
      | (with_reducible exact ih6 _ _ _ _ _ _ _ _ _ _ _ _ _ _ _)
      | (with_reducible exact ih7 _ _ _ _ _ _ _ _ _ _ _ _ _ _ _ _ _ _ _ _ _ _ _)
      | (with_reducible exact quilllaw10_Heavy.mono _ _ _ _ _ _ _ _ _)
      | (with_reducible exact quillref12_Around.mono _ _ _ _ _)
      | (with_reducible exact quillref12_Mate.mono _ _ _)
      | (with_reducible exact quillref12_Pair.mono _ _ _)
      | (with_reducible exact quillref1_May.mono _ _)
      | (with_reducible exact LeO.refl _)
      | (with_reducible exact LeO.none _)
      | (with_reducible refine LeO.ite ?_ ?_)
      | (with_reducible refine LeO.bind ?_ (fun _ => ?_))
      | exact ih0 _ _ _ _ _ _ _ _ _
      | exact ih1 _ _ _ _ _ _ _ _ _ _
      | exact ih2 _ _ _ _ _ _ _ _ _ _ _ _
      | exact ih3 _ _ _ _ _ _ _ _ _ _ _ _ _
      | exact ih4 _ _ _ _ _ _ _ _ _ _ _ _ _ _ _ _ _ _ _ _ _
      | exact ih5 _ _ _ _ _ _ _ _ _ _ _ _ _ _
      | exact ih6 _ _ _ _ _ _ _ _ _ _ _ _ _ _ _
      | exact ih7 _ _ _ _ _ _ _ _ _ _ _ _ _ _ _ _ _ _ _ _ _ _ _
      | exact quilllaw10_Heavy.mono _ _ _ _ _ _ _ _ _
      | exact quillref12_Around.mono _ _ _ _ _
      | exact quillref12_Mate.mono _ _ _
      | exact quillref12_Pair.mono _ _ _
      | exact quillref1_May.mono _ _
      | exact LeO.none _
      | refine LeO.ite ?_ ?_
      | refine LeO.bind ?_ (fun _ => ?_)
    · intro y0 y1 y2 y3 y4 y5 y6 y7 y8 y9 y10 y11 y12
      unfold quilllaw14_PairsMates.j3
      repeat' first
      | (with_reducible exact ih0 _ _ _ _ _ _ _ _ _)
      | (with_reducible exact ih1 _ _ _ _ _ _ _ _ _ _)
      | (with_reducible exact ih2 _ _ _ _ _ _ _ _ _ _ _ _)
      | (with_reducible exact ih3 _ _ _ _ _ _ _ _ _ _ _ _ _)
      | (with_reducible exact ih4 _ _ _ _ _ _ _ _ _ _ _ _ _ _ _ _ _ _ _ _ _)
      | (with_reducible exact ih5 _ _ _ _ _ _ _ _ _ _ _ _ _ _)
      | (with_reducible exact ih6 _ _ _ _ _ _ _ _ _ _ _ _ _ _ _)
      | (with_reducible exact ih7 _ _ _ _ _ _ _ _ _ _ _ _ _ _ _ _ _ _ _ _ _ _ _)
      | (with_reducible exact quilllaw10_Heavy.mono _ _ _ _ _ _ _ _ _)
      | (with_reducible exact quillref12_Around.mono _ _ _ _ _)
      | (with_reducible exact quillref12_Mate.mono _ _ _)
      | (with_reducible exact quillref12_Pair.mono _ _ _)
      | (with_reducible exact quillref1_May.mono _ _)
      | (with_reducible exact LeO.refl _)
      | (with_reducible exact LeO.none _)
      | (with_reducible refine LeO.ite ?_ ?_)
      | (with_reducible refine LeO.bind ?_ (fun _ => ?_))
      | exact ih0 _ _ _ _ _ _ _ _ _
      | exact ih1 _ _ _ _ _ _ _ _ _ _
      | exact ih2 _ _ _ _ _ _ _ _ _ _ _ _
      | exact ih3 _ _ _ _ _ _ _ _ _ _ _ _ _
      | exact ih4 _ _ _ _ _ _ _ _ _ _ _ _ _ _ _ _ _ _ _ _ _
      | exact ih5 _ _ _ _ _ _ _ _ _ _ _ _ _ _
      | exact ih6 _ _ _ _ _ _ _ _ _ _ _ _ _ _ _
      | exact ih7 _ _ _ _ _ _ _ _ _ _ _ _ _ _ _ _ _ _ _ _ _ _ _
      | exact quilllaw10_Heavy.mono _ _ _ _ _ _ _ _ _
      | exact quillref12_Around.mono _ _ _ _ _
      | exact quillref12_Mate.mono _ _ _
      | exact quillref12_Pair.mono _ _ _
      | exact quillref1_May.mono _ _
      | exact LeO.none _
      | refine LeO.ite ?_ ?_
      | refine LeO.bind ?_ (fun _ => ?_)
    · intro y0 y1 y2 y3 y4 y5 y6 y7 y8 y9 y10 y11 y12 y13 y14 y15 y16 y17 y18 y19 y20
      unfold quilllaw14_PairsMates.j4
      repeat' first
      | (with_reducible exact ih0 _ _ _ _ _ _ _ _ _)
      | (with_reducible exact ih1 _ _ _ _ _ _ _ _ _ _)
      | (with_reducible exact ih2 _ _ _ _ _ _ _ _ _ _ _ _)
      | (with_reducible exact ih3 _ _ _ _ _ _ _ _ _ _ _ _ _)
      | (with_reducible exact ih4 _ _ _ _ _ _ _ _ _ _ _ _ _ _ _ _ _ _ _ _ _)
      | (with_reducible exact ih5 _ _ _ _ _ _ _ _ _ _ _ _ _ _)
      | (with_reducible exact ih6 _ _ _ _ _ _ _ _ _ _ _ _ _ _ _)
      | (with_reducible exact ih7 _ _ _ _ _ _ _ _ _ _ _ _ _ _ _ _ _ _ _ _ _ _ _)
      | (with_reducible exact quilllaw10_Heavy.mono _ _ _ _ _ _ _ _ _)
      | (with_reducible exact quillref12_Around.mono _ _ _ _ _)
      | (with_reducible exact quillref12_Mate.mono _ _ _)
      | (with_reducible exact quillref12_Pair.mono _ _ _)
      | (with_reducible exact quillref1_May.mono _ _)
      | (with_reducible exact LeO.refl _)
      | (with_reducible exact LeO.none _)
      | (with_reducible refine LeO.ite ?_ ?_)
      | (with_reducible refine LeO.bind ?_ (fun _ => ?_))
      | exact ih0 _ _ _ _ _ _ _ _ _
      | exact ih1 _ _ _ _ _ _ _ _ _ _
      | exact ih2 _ _ _ _ _ _ _ _ _ _ _ _
      | exact ih3 _ _ _ _ _ _ _ _ _ _ _ _ _
      | exact ih4 _ _ _ _ _ _ _ _ _ _ _ _ _ _ _ _ _ _ _ _ _
      | exact ih5 _ _ _ _ _ _ _ _ _ _ _ _ _ _
      | exact ih6 _ _ _ _ _ _ _ _ _ _ _ _ _ _ _
      | exact ih7 _ _ _ _ _ _ _ _ _ _ _ _ _ _ _ _ _ _ _ _ _ _ _
      | exact quilllaw10_Heavy.mono _ _ _ _ _ _ _ _ _
      | exact quillref12_Around.mono _ _ _ _ _
      | exact quillref12_Mate.mono _ _ _
      | exact quillref12_Pair.mono _ _ _
      | exact quillref1_May.mono _ _
      | exact LeO.none _
      | refine LeO.ite ?_ ?_
      | refine LeO.bind ?_ (fun _ => ?_)
    · intro y0 y1 y2 y3 y4 y5 y6 y7 y8 y9 y10 y11 y12 y13
      unfold quilllaw14_PairsMates.j5
      repeat' first
      | (with_reducible exact ih0 _ _ _ _ _ _ _ _ _)
      | (with_reducible exact ih1 _ _ _ _ _ _ _ _ _ _)
      | (with_reducible exact ih2 _ _ _ _ _ _ _ _ _ _ _ _)
      | (with_reducible exact ih3 _ _ _ _ _ _ _ _ _ _ _ _ _)
      | (with_reducible exact ih4 _ _ _ _ _ _ _ _ _ _ _ _ _ _ _ _ _ _ _ _ _)
      | (with_reducible exact ih5 _ _ _ _ _ _ _ _ _ _ _ _ _ _)
      | (with_reducible exact ih6 _ _ _ _ _ _ _ _ _ _ _ _ _ _ _)
      | (with_reducible exact ih7 _ _ _ _ _ _ _ _ _ _ _ _ _ _ _ _ _ _ _ _ _ _ _)
      | (with_reducible exact quilllaw10_Heavy.mono _ _ _ _ _ _ _ _ _)
      | (with_reducible exact quillref12_Around.mono _ _ _ _ _)
      | (with_reducible exact quillref12_Mate.mono _ _ _)
      | (with_reducible exact quillref12_Pair.mono _ _ _)
      | (with_reducible exact quillref1_May.mono _ _)
      | (with_reducible exact LeO.refl _)
      | (with_reducible exact LeO.none _)
      | (with_reducible refine LeO.ite ?_ ?_)
      | (with_reducible refine LeO.bind ?_ (fun _ => ?_))
      | exact ih0 _ _ _ _ _ _ _ _ _
      | exact ih1 _ _ _ _ _ _ _ _ _ _
      | exact ih2 _ _ _ _ _ _ _ _ _ _ _ _
      | exact ih3 _ _ _ _ _ _ _ _ _ _ _ _ _
      | exact ih4 _ _ _ _ _ _ _ _ _ _ _ _ _ _ _ _ _ _ _ _ _
      | exact ih5 _ _ _ _ _ _ _ _ _ _ _ _ _ _
      | exact ih6 _ _ _ _ _ _ _ _ _ _ _ _ _ _ _
      | exact ih7 _ _ _ _ _ _ _ _ _ _ _ _ _ _ _ _ _ _ _ _ _ _ _
      | exact quilllaw10_Heavy.mono _ _ _ _ _ _ _ _ _
      | exact quillref12_Around.mono _ _ _ _ _
      | exact quillref12_Mate.mono _ _ _
      | exact quillref12_Pair.mono _ _ _
      | exact quillref1_May.mono _ _
      | exact LeO.none _
      | refine LeO.ite ?_ ?_
      | refine LeO.bind ?_ (fun _ => ?_)
    · intro y0 y1 y2 y3 y4 y5 y6 y7 y8 y9 y10 y11 y12 y13 y14
      unfold quilllaw14_PairsMates.l2
      repeat' first
      | (with_reducible exact ih0 _ _ _ _ _ _ _ _ _)
      | (with_reducible exact ih1 _ _ _ _ _ _ _ _ _ _)
      | (with_reducible exact ih2 _ _ _ _ _ _ _ _ _ _ _ _)
      | (with_reducible exact ih3 _ _ _ _ _ _ _ _ _ _ _ _ _)
      | (with_reducible exact ih4 _ _ _ _ _ _ _ _ _ _ _ _ _ _ _ _ _ _ _ _ _)
      | (with_reducible exact ih5 _ _ _ _ _ _ _ _ _ _ _ _ _ _)
      | (with_reducible exact ih6 _ _ _ _ _ _ _ _ _ _ _ _ _ _ _)
      | (with_reducible exact ih7 _ _ _ _ _ _ _ _ _ _ _ _ _ _ _ _ _ _ _ _ _ _ _)
      | (with_reducible exact quilllaw10_Heavy.mono _ _ _ _ _ _ _ _ _)
      | (with_reducible exact quillref12_Around.mono _ _ _ _ _)
      | (with_reducible exact quillref12_Mate.mono _ _ _)
      | (with_reducible exact quillref12_Pair.mono _ _ _)
      | (with_reducible exact quillref1_May.mono _ _)
      | (with_reducible exact LeO.refl _)
      | (with_reducible exact LeO.none _)
      | (with_reducible refine LeO.ite ?_ ?_)
      | (with_reducible refine LeO.bind ?_ (fun _ => ?_))
      | exact ih0 _ _ _ _ _ _ _ _ _
      | exact ih1 _ _ _ _ _ _ _ _ _ _
      | exact ih2 _ _ _ _ _ _ _ _ _ _ _ _
      | exact ih3 _ _ _ _ _ _ _ _ _ _ _ _ _
      | exact ih4 _ _ _ _ _ _ _ _ _ _ _ _ _ _ _ _ _ _ _ _ _
      | exact ih5 _ _ _ _ _ _ _ _ _ _ _ _ _ _
      | exact ih6 _ _ _ _ _ _ _ _ _ _ _ _ _ _ _
      | exact ih7 _ _ _ _ _ _ _ _ _ _ _ _ _ _ _ _ _ _ _ _ _ _ _
      | exact quilllaw10_Heavy.mono _ _ _ _ _ _ _ _ _
      | exact quillref12_Around.mono _ _ _ _ _
      | exact quillref12_Mate.mono _ _ _
      | exact quillref12_Pair.mono _ _ _
      | exact quillref1_May.mono _ _
      | exact LeO.none _
      | refine LeO.ite ?_ ?_
      | refine LeO.bind ?_ (fun _ => ?_)
    · intro y0 y1 y2 y3 y4 y5 y6 y7 y8 y9 y10 y11 y12 y13 y14 y15 y16 y17 y18 y19 y20 y21 y22
      unfold quilllaw14_PairsMates.j7
      repeat' first
      | (with_reducible exact ih0 _ _ _ _ _ _ _ _ _)
      | (with_reducible exact ih1 _ _ _ _ _ _ _ _ _ _)
      | (with_reducible exact ih2 _ _ _ _ _ _ _ _ _ _ _ _)
      | (with_reducible exact ih3 _ _ _ _ _ _ _ _ _ _ _ _ _)
      | (with_reducible exact ih4 _ _ _ _ _ _ _ _ _ _ _ _ _ _ _ _ _ _ _ _ _)
      | (with_reducible exact ih5 _ _ _ _ _ _ _ _ _ _ _ _ _ _)
      | (with_reducible exact ih6 _ _ _ _ _ _ _ _ _ _ _ _ _ _ _)
      | (with_reducible exact ih7 _ _ _ _ _ _ _ _ _ _ _ _ _ _ _ _ _ _ _ _ _ _ _)
      | (with_reducible exact quilllaw10_Heavy.mono _ _ _ _ _ _ _ _ _)
      | (with_reducible exact quillref12_Around.mono _ _ _ _ _)
      | (with_reducible exact quillref12_Mate.mono _ _ _)
      | (with_reducible exact quillref12_Pair.mono _ _ _)
      | (with_reducible exact quillref1_May.mono _ _)
      | (with_reducible exact LeO.refl _)
      | (with_reducible exact LeO.none _)
      | (with_reducible refine LeO.ite ?_ ?_)
      | (with_reducible refine LeO.bind ?_ (fun _ => ?_))
      | exact ih0 _ _ _ _ _ _ _ _ _
      | exact ih1 _ _ _ _ _ _ _ _ _ _
      | exact ih2 _ _ _ _ _ _ _ _ _ _ _ _
      | exact ih3 _ _ _ _ _ _ _ _ _ _ _ _ _
      | exact ih4 _ _ _ _ _ _ _ _ _ _ _ _ _ _ _ _ _ _ _ _ _
      | exact ih5 _ _ _ _ _ _ _ _ _ _ _ _ _ _
      | exact ih6 _ _ _ _ _ _ _ _ _ _ _ _ _ _ _
      | exact ih7 _ _ _ _ _ _ _ _ _ _ _ _ _ _ _ _ _ _ _ _ _ _ _
      | exact quilllaw10_Heavy.mono _ _ _ _ _ _ _ _ _
      | exact quillref12_Around.mono _ _ _ _ _
      | exact quillref12_Mate.mono _ _ _
      | exact quillref12_Pair.mono _ _ _
      | exact quillref1_May.mono _ _
      | exact LeO.none _
      | refine LeO.ite ?_ ?_
      | refine LeO.bind ?_ (fun _ => ?_)
theorem quilllaw14_PairsMates.mono : ∀ a0 a1 a2 a3 a4 a5 a6 a7 k, LeO (quilllaw14_PairsMates.f k a0 a1 a2 a3 a4 a5 a6 a7) (quilllaw14_PairsMates.f (k + 1) a0 a1 a2 a3 a4 a5 a6 a7) := by
  intro a0 a1 a2 a3 a4 a5 a6 a7 k
  obtain ⟨ih0, ih1, ih2, ih3, ih4, ih5, ih6, ih7⟩ := quilllaw14_PairsMates.mono_l k
  unfold quilllaw14_PairsMates.f
  repeat' first
      | (with_reducible exact ih0 _ _ _ _ _ _ _ _ _)
      | (with_reducible exact ih1 _ _ _ _ _ _ _ _ _ _)
      | (with_reducible exact ih2 _ _ _ _ _ _ _ _ _ _ _ _)
      | (with_reducible exact ih3 _ _ _ _ _ _ _ _ _ _ _ _ _)
      | (with_reducible exact ih4 _ _ _ _ _ _ _ _ _ _ _ _ _ _ _ _ _ _ _ _ _)
      | (with_reducible exact ih5 _ _ _ _ _ _ _ _ _ _ _ _ _ _)
      | (with_reducible exact ih6 _ _ _ _ _ _ _ _ _ _ _ _ _ _ _)
      | (with_reducible exact ih7 _ _ _ _ _ _ _ _ _ _ _ _ _ _ _ _ _ _ _ _ _ _ _)
      | (with_reducible exact quilllaw10_Heavy.mono _ _ _ _ _ _ _ _ _)
      | (with_reducible exact quillref12_Around.mono _ _ _ _ _)
      | (with_reducible exact quillref12_Mate.mono _ _ _)
      | (with_reducible exact quillref12_Pair.mono _ _ _)
      | (with_reducible exact quillref1_May.mono _ _)
      | (with_reducible exact LeO.refl _)
      | (with_reducible exact LeO.none _)
      | (with_reducible refine LeO.ite ?_ ?_)
      | (with_reducible refine LeO.bind ?_ (fun _ => ?_))
      | exact ih0 _ _ _ _ _ _ _ _ _
      | exact ih1 _ _ _ _ _ _ _ _ _ _
      | exact ih2 _ _ _ _ _ _ _ _ _ _ _ _
      | exact ih3 _ _ _ _ _ _ _ _ _ _ _ _ _
      | exact ih4 _ _ _ _ _ _ _ _ _ _ _ _ _ _ _ _ _ _ _ _ _
      | exact ih5 _ _ _ _ _ _ _ _ _ _ _ _ _ _
      | exact ih6 _ _ _ _ _ _ _ _ _ _ _ _ _ _ _
      | exact ih7 _ _ _ _ _ _ _ _ _ _ _ _ _ _ _ _ _ _ _ _ _ _ _
      | exact quilllaw10_Heavy.mono _ _ _ _ _ _ _ _ _
      | exact quillref12_Around.mono _ _ _ _ _
      | exact quillref12_Mate.mono _ _ _
      | exact quillref12_Pair.mono _ _ _
      | exact quillref1_May.mono _ _
      | exact LeO.none _
      | refine LeO.ite ?_ ?_
      | refine LeO.bind ?_ (fun _ => ?_)
set_option maxHeartbeats 8000000 in
set_option maxRecDepth 100000 in
theorem quilllaw14_PairsMates.calls (k : Nat) (A0_0 : Option Addr) (c0_0 : Nat) (l0_0 : List ByteArray) (a0_1 : Int) (a0_2 : Int) (a0_3 : Int) (a0_4 : Int) (a0_5 : Int) (a0_6 : Int) (a0_7 : Int) (r : Bool) (w : World) (hr0_0 : Kd.C Kd.string w A0_0 l0_0.length l0_0) (hc0_0 : l0_0.length ≤ c0_0) (hT : TabsOk w) (hr_ : r = true) (h : quilllaw14_PairsMates.f k l0_0 a0_1 a0_2 a0_3 a0_4 a0_5 a0_6 a0_7 = some r) :
    Calls Tryd.prog 10 #[.agg #[.slice A0_0 l0_0.length c0_0, .int .i64 a0_1, .int .i64 a0_2, .int .i64 a0_3, .int .i64 a0_4, .int .i64 a0_5, .int .i64 a0_6, .int .i64 a0_7]] w fun e w' => e = .returned (.bool r) ∧ Below w.heap.size w w' := by
  have hu50 := Tryd.underlying50
  have HR0_0 := Aside0.mk hr0_0
  have HC0_0 := Aside0.mk hc0_0
  clear hr0_0 hc0_0
  have HT := Aside0.mk hT
  clear hT
  have HRT := Aside0.mk hr_
  clear hr_
  have HB := Aside0.mk (Below.refl w.heap.size w)
  have H : ((quilllaw10_Heavy.f k l0_0 a0_1 a0_2 a0_3 a0_4 a0_5 a0_6 a0_7).bind fun t145 => (if t145 = true then (some true) else (quilllaw14_PairsMates.l0 k 0 l0_0 a0_1 a0_2 a0_3 a0_4 a0_5 a0_6 a0_7))) = some r := h
  clear h
  replace H := Option.bind_eq_some_iff.mp H
  obtain ⟨t145, A20, H⟩ := H
  replace H : (if t145 = true then (some true) else (quilllaw14_PairsMates.l0 k 0 l0_0 a0_1 a0_2 a0_3 a0_4 a0_5 a0_6 a0_7)) = some r := H
  have A2 := Aside0.mk A20
  clear A20
  by_cases c3 : t145 = true
  · subst c3
    have H1 : (some true) = some r := by rw [if_pos rfl] at H; exact H
    clear H
    have H := H1
    clear H1
    obtain rfl := Option.some.inj H
    go_enter Tryd.func10, Tryd.ntmps10
    go_wp2_with (first | ((with_reducible refine gate_dst (N := 1) rfl ?_); (try (refine gate_guard (by rfl) ?_; dsimp only)); refine box_event ?hg (N := 1) ?hd (cs := #[.slice A0_0 l0_0.length c0_0, .int .i64 a0_1, .int .i64 a0_2, .int .i64 a0_3, .int .i64 a0_4, .int .i64 a0_5, .int .i64 a0_6, .int .i64 a0_7]) (t := 50) ?hr ?_; (case hd => rfl); (case hg => rfl); (case hr => first | (go_simp; done) | (go_simp; rfl)); intro gb144 hg w4 hbox hb; have n0_ := Aside0.mk (below_step (by repeat (first | (with_reducible first | exact HB.out | apply below_alloc | apply pw_below_drewN | apply below_drew1) | exact HB.out)) hb); have n1_ := Aside0.mk (hbox); have n2_ := Aside0.mk ((by rw [hg]; exact (below_size (by repeat (first | (with_reducible first | exact HB.out | apply below_alloc | apply pw_below_drewN | apply below_drew1) | exact HB.out))) : w.heap.size ≤ gb144)); have n3_ := Aside0.mk ((by rw [hg]; exact (below_size (by repeat (first | (with_reducible first | exact HB.out | apply below_alloc | apply pw_below_drewN | apply below_drew1) | exact HB.out))) : w.heap.size ≤ gb144)); clear HB; have HB := n0_; have BK144 := n1_; have GW144 := n2_; have GE144 := n3_; clear n0_ n1_ n2_ n3_; clear hb hbox hg; have hcz5_0 : w4.cell? ⟨gb144, 0, none⟩ = some (.slice A0_0 l0_0.length c0_0) := (blk_cell BK144.out 0).trans rfl; have hcz5_1 : w4.cell? ⟨gb144, 1, none⟩ = some (.int .i64 a0_1) := (blk_cell BK144.out 1).trans rfl; have hcz5_2 : w4.cell? ⟨gb144, 2, none⟩ = some (.int .i64 a0_2) := (blk_cell BK144.out 2).trans rfl; have hcz5_3 : w4.cell? ⟨gb144, 3, none⟩ = some (.int .i64 a0_3) := (blk_cell BK144.out 3).trans rfl; have hcz5_4 : w4.cell? ⟨gb144, 4, none⟩ = some (.int .i64 a0_4) := (blk_cell BK144.out 4).trans rfl; have hcz5_5 : w4.cell? ⟨gb144, 5, none⟩ = some (.int .i64 a0_5) := (blk_cell BK144.out 5).trans rfl; have hcz5_6 : w4.cell? ⟨gb144, 6, none⟩ = some (.int .i64 a0_6) := (blk_cell BK144.out 6).trans rfl; have hcz5_7 : w4.cell? ⟨gb144, 7, none⟩ = some (.int .i64 a0_7) := (blk_cell BK144.out 7).trans rfl; have hfz5_0 := blk_frozen BK144.out 0; have hfz5_1 := blk_frozen BK144.out 1; have hfz5_2 := blk_frozen BK144.out 2; have hfz5_3 := blk_frozen BK144.out 3; have hfz5_4 := blk_frozen BK144.out 4; have hfz5_5 := blk_frozen BK144.out 5; have hfz5_6 := blk_frozen BK144.out 6; have hfz5_7 := blk_frozen BK144.out 7) | ((with_reducible refine gate_callee (f := 25) rfl ?_); refine goesL_ (some 29) rfl rfl Tryd.func25 (by as_aux_lemma => kernel_rfl) rfl #[.agg #[.slice A0_0 l0_0.length c0_0, .int .i64 a0_1, .int .i64 a0_2, .int .i64 a0_3, .int .i64 a0_4, .int .i64 a0_5, .int .i64 a0_6, .int .i64 a0_7]] rfl (by (try simp only [List.map_toArray, List.map_cons, List.map_nil]); first | done | rfl | (simp only [List.length_drop, List.length_take]; rfl)) ?_; (with_reducible refine (quilllaw10_Heavy.calls k _ _ l0_0 a0_1 a0_2 a0_3 a0_4 a0_5 a0_6 a0_7 true _ ?side1 ?side2 A2.out).mono ?_); (case side1 => repeat (first | exact (Kd.C_below HR0_0.out HB.out) | (with_reducible refine Kd.C_alloc ?_ _) | (with_reducible refine Kd.C_drewN ?_ _) | (with_reducible refine Kd.C_drew ?_))); (case side2 => exact HC0_0.out); rintro e w6 ⟨rfl, hb⟩; refine ⟨_, rfl, ?_⟩; have n0_ := Aside0.mk (blk_below (g := gb144) (o := .cells #[.slice A0_0 l0_0.length c0_0, .int .i64 a0_1, .int .i64 a0_2, .int .i64 a0_3, .int .i64 a0_4, .int .i64 a0_5, .int .i64 a0_6, .int .i64 a0_7] 50 (0, 0)) (by (with_reducible repeat (first | refine blk_drewN ?_ _ | refine blk_drew ?_ | refine blk_alloc ?_ _)); exact BK144.out) hb); have n1_ := Aside0.mk (below_step (by repeat (first | (with_reducible first | exact HB.out | apply below_alloc | apply pw_below_drewN | apply below_drew1 | refine below_set ?_ GE144.out) | exact HB.out)) hb); clear BK144; clear HB; have BK144 := n0_; have HB := n1_; clear n0_ n1_; (try clear hb); (try clear hb2); (try clear hk); (try clear hi)))
    go_ret
    exact ⟨by first | rfl | (simp [errW_none, errW_some] <;> rfl) | (simp [*, errW_none, errW_some] <;> rfl), by repeat (first | (with_reducible first | exact HB.out | apply below_alloc | apply pw_below_drewN | apply below_drew1 | refine below_set ?_ GE144.out) | exact HB.out)⟩
  · replace c3 := Bool.eq_false_iff.mpr c3
    subst c3
    have H1 : (quilllaw14_PairsMates.l0 k 0 l0_0 a0_1 a0_2 a0_3 a0_4 a0_5 a0_6 a0_7) = some r := by rw [if_neg (show ¬ (false = true) by decide)] at H; exact H
    clear H
    have H := H1
    clear H1
    have H' := Aside0.mk H
    clear H
    go_enter Tryd.func10, Tryd.ntmps10
    go_wp2_with (first | ((with_reducible refine gate_dst (N := 1) rfl ?_); (try (refine gate_guard (by rfl) ?_; dsimp only)); refine box_event ?hg (N := 1) ?hd (cs := #[.slice A0_0 l0_0.length c0_0, .int .i64 a0_1, .int .i64 a0_2, .int .i64 a0_3, .int .i64 a0_4, .int .i64 a0_5, .int .i64 a0_6, .int .i64 a0_7]) (t := 50) ?hr ?_; (case hd => rfl); (case hg => rfl); (case hr => first | (go_simp; done) | (go_simp; rfl)); intro gb144 hg w7 hbox hb; have n0_ := Aside0.mk (below_step (by repeat (first | (with_reducible first | exact HB.out | apply below_alloc | apply pw_below_drewN | apply below_drew1) | exact HB.out)) hb); have n1_ := Aside0.mk (hbox); have n2_ := Aside0.mk ((by rw [hg]; exact (below_size (by repeat (first | (with_reducible first | exact HB.out | apply below_alloc | apply pw_below_drewN | apply below_drew1) | exact HB.out))) : w.heap.size ≤ gb144)); have n3_ := Aside0.mk ((by rw [hg]; exact (below_size (by repeat (first | (with_reducible first | exact HB.out | apply below_alloc | apply pw_below_drewN | apply below_drew1) | exact HB.out))) : w.heap.size ≤ gb144)); clear HB; have HB := n0_; have BK144 := n1_; have GW144 := n2_; have GE144 := n3_; clear n0_ n1_ n2_ n3_; clear hb hbox hg; have hcz8_0 : w7.cell? ⟨gb144, 0, none⟩ = some (.slice A0_0 l0_0.length c0_0) := (blk_cell BK144.out 0).trans rfl; have hcz8_1 : w7.cell? ⟨gb144, 1, none⟩ = some (.int .i64 a0_1) := (blk_cell BK144.out 1).trans rfl; have hcz8_2 : w7.cell? ⟨gb144, 2, none⟩ = some (.int .i64 a0_2) := (blk_cell BK144.out 2).trans rfl; have hcz8_3 : w7.cell? ⟨gb144, 3, none⟩ = some (.int .i64 a0_3) := (blk_cell BK144.out 3).trans rfl; have hcz8_4 : w7.cell? ⟨gb144, 4, none⟩ = some (.int .i64 a0_4) := (blk_cell BK144.out 4).trans rfl; have hcz8_5 : w7.cell? ⟨gb144, 5, none⟩ = some (.int .i64 a0_5) := (blk_cell BK144.out 5).trans rfl; have hcz8_6 : w7.cell? ⟨gb144, 6, none⟩ = some (.int .i64 a0_6) := (blk_cell BK144.out 6).trans rfl; have hcz8_7 : w7.cell? ⟨gb144, 7, none⟩ = some (.int .i64 a0_7) := (blk_cell BK144.out 7).trans rfl; have hfz8_0 := blk_frozen BK144.out 0; have hfz8_1 := blk_frozen BK144.out 1; have hfz8_2 := blk_frozen BK144.out 2; have hfz8_3 := blk_frozen BK144.out 3; have hfz8_4 := blk_frozen BK144.out 4; have hfz8_5 := blk_frozen BK144.out 5; have hfz8_6 := blk_frozen BK144.out 6; have hfz8_7 := blk_frozen BK144.out 7) | ((with_reducible refine gate_callee (f := 25) rfl ?_); refine goesL_ (some 29) rfl rfl Tryd.func25 (by as_aux_lemma => kernel_rfl) rfl #[.agg #[.slice A0_0 l0_0.length c0_0, .int .i64 a0_1, .int .i64 a0_2, .int .i64 a0_3, .int .i64 a0_4, .int .i64 a0_5, .int .i64 a0_6, .int .i64 a0_7]] rfl (by (try simp only [List.map_toArray, List.map_cons, List.map_nil]); first | done | rfl | (simp only [List.length_drop, List.length_take]; rfl)) ?_; (with_reducible refine (quilllaw10_Heavy.calls k _ _ l0_0 a0_1 a0_2 a0_3 a0_4 a0_5 a0_6 a0_7 false _ ?side1 ?side2 A2.out).mono ?_); (case side1 => repeat (first | exact (Kd.C_below HR0_0.out HB.out) | (with_reducible refine Kd.C_alloc ?_ _) | (with_reducible refine Kd.C_drewN ?_ _) | (with_reducible refine Kd.C_drew ?_))); (case side2 => exact HC0_0.out); rintro e w9 ⟨rfl, hb⟩; refine ⟨_, rfl, ?_⟩; have n0_ := Aside0.mk (blk_below (g := gb144) (o := .cells #[.slice A0_0 l0_0.length c0_0, .int .i64 a0_1, .int .i64 a0_2, .int .i64 a0_3, .int .i64 a0_4, .int .i64 a0_5, .int .i64 a0_6, .int .i64 a0_7] 50 (0, 0)) (by (with_reducible repeat (first | refine blk_drewN ?_ _ | refine blk_drew ?_ | refine blk_alloc ?_ _)); exact BK144.out) hb); have n1_ := Aside0.mk (below_step (by repeat (first | (with_reducible first | exact HB.out | apply below_alloc | apply pw_below_drewN | apply below_drew1 | refine below_set ?_ GE144.out) | exact HB.out)) hb); clear BK144; clear HB; have BK144 := n0_; have HB := n1_; clear n0_ n1_; (try clear hb); (try clear hb2); (try clear hk); (try clear hi)))
    go_loopg [3] k (fun kq v3 w' => ∃ (x3_1 : Int), v3 = .int .i64 x3_1 ∧ Aside0 (quilllaw14_PairsMates.l0 kq x3_1 l0_0 a0_1 a0_2 a0_3 a0_4 a0_5 a0_6 a0_7 = some r) ∧ Aside0 (kq ≤ k) ∧ Aside0 (w'.heap[gb144]? = some (.cells #[(.slice A0_0 l0_0.length c0_0), .int .i64 a0_1, .int .i64 a0_2, .int .i64 a0_3, .int .i64 a0_4, .int .i64 a0_5, .int .i64 a0_6, .int .i64 a0_7] 50 (0, 0))) ∧ Aside0 (Below w.heap.size w w'))
    case atStart => exact ⟨(0), (by first | rfl | (simp; done) | (simp [*]; done)), H', ⟨Nat.le_refl _⟩, ⟨by (with_reducible repeat (first | refine blk_drewN ?_ _ | refine blk_drew ?_ | refine blk_alloc ?_ _)); exact BK144.out⟩, ⟨by repeat (first | (with_reducible first | exact HB.out | apply below_alloc | apply pw_below_drewN | apply below_drew1 | refine below_set ?_ GE144.out) | exact HB.out)⟩⟩
    case round =>
      clear H'
      try clear c1
      try clear c2
      try clear p2
      try clear c3
      try clear hcz5_0
      try clear hcz5_1
      try clear hcz5_2
      try clear hcz5_3
      try clear hcz5_4
      try clear hcz5_5
      try clear hcz5_6
      try clear hcz5_7
      try clear hcz8_0
      try clear hcz8_1
      try clear hcz8_2
      try clear hcz8_3
      try clear hcz8_4
      try clear hcz8_5
      try clear hcz8_6
      try clear hcz8_7
      try clear hfz5_0
      try clear hfz5_1
      try clear hfz5_2
      try clear hfz5_3
      try clear hfz5_4
      try clear hfz5_5
      try clear hfz5_6
      try clear hfz5_7
      try clear hfz8_0
      try clear hfz8_1
      try clear hfz8_2
      try clear hfz8_3
      try clear hfz8_4
      try clear hfz8_5
      try clear hfz8_6
      try clear hfz8_7
      obtain ⟨x3_1, rfl, HA, HK1, BK144, HB⟩ := hrel
      cases gk with
      | zero => exact absurd HA.out (by simp [quilllaw14_PairsMates.l0])
      | succ k1 =>
        have H := HA.out
        clear HA
        simp only [quilllaw14_PairsMates.l0] at H
        have HC10 := Aside0.mk H
        clear H
        go_upto_region 4 with (fail)
        go_cut [39] (fun v39 wc => ∃ (kq : Nat) (x39_9 : Bool), v39 = .bool x39_9 ∧ Aside0 (quilllaw14_PairsMates.j1 kq x3_1 x39_9 l0_0 a0_1 a0_2 a0_3 a0_4 a0_5 a0_6 a0_7 = some r) ∧ Aside0 (kq ≤ k1) ∧ Aside0 (wc.heap[gb144]? = some (.cells #[(.slice A0_0 l0_0.length c0_0), .int .i64 a0_1, .int .i64 a0_2, .int .i64 a0_3, .int .i64 a0_4, .int .i64 a0_5, .int .i64 a0_6, .int .i64 a0_7] 50 (0, 0))) ∧ Aside0 (Below w.heap.size w wc))
        case first => as_aux_lemma =>
          have H := HC10.out
          clear HC10
          by_cases c11 : x3_1 < (l0_0.length : Int)
          · rw [if_pos c11] at H
            have c11b0 : decide (x3_1 < (l0_0.length : Int)) = true := decide_eq_true c11
            clear c11
            (first | rw [c11b0] | (simp only [i64_w, i32_w]; rw [c11b0]) | skip)
            have H' := Aside0.mk H
            clear H
            have hcz12_0 : wr.cell? ⟨gb144, 0, none⟩ = some (.slice A0_0 l0_0.length c0_0) := (blk_cell BK144.out 0).trans rfl
            have hcz12_1 : wr.cell? ⟨gb144, 1, none⟩ = some (.int .i64 a0_1) := (blk_cell BK144.out 1).trans rfl
            have hcz12_2 : wr.cell? ⟨gb144, 2, none⟩ = some (.int .i64 a0_2) := (blk_cell BK144.out 2).trans rfl
            have hcz12_3 : wr.cell? ⟨gb144, 3, none⟩ = some (.int .i64 a0_3) := (blk_cell BK144.out 3).trans rfl
            have hcz12_4 : wr.cell? ⟨gb144, 4, none⟩ = some (.int .i64 a0_4) := (blk_cell BK144.out 4).trans rfl
            have hcz12_5 : wr.cell? ⟨gb144, 5, none⟩ = some (.int .i64 a0_5) := (blk_cell BK144.out 5).trans rfl
            have hcz12_6 : wr.cell? ⟨gb144, 6, none⟩ = some (.int .i64 a0_6) := (blk_cell BK144.out 6).trans rfl
            have hcz12_7 : wr.cell? ⟨gb144, 7, none⟩ = some (.int .i64 a0_7) := (blk_cell BK144.out 7).trans rfl
            have hfz12_0 := blk_frozen BK144.out 0
            have hfz12_1 := blk_frozen BK144.out 1
            have hfz12_2 := blk_frozen BK144.out 2
            have hfz12_3 := blk_frozen BK144.out 3
            have hfz12_4 := blk_frozen BK144.out 4
            have hfz12_5 := blk_frozen BK144.out 5
            have hfz12_6 := blk_frozen BK144.out 6
            have hfz12_7 := blk_frozen BK144.out 7
            go_wp2
            go_meet
            case rel => exact ⟨_, (decide (x3_1 < 5)), (by first | rfl | (simp; done) | (simp [*]; done)), H', ⟨by have := HK1.out; first | omega | exact Nat.le_refl _⟩, ⟨by (with_reducible repeat (first | refine blk_drewN ?_ _ | refine blk_drew ?_ | refine blk_alloc ?_ _)); exact BK144.out⟩, ⟨by repeat (first | (with_reducible first | exact HB.out | apply below_alloc | apply pw_below_drewN | apply below_drew1 | refine below_set ?_ GE144.out) | exact HB.out)⟩⟩
          · rw [if_neg c11] at H
            have c11b0 : decide (x3_1 < (l0_0.length : Int)) = false := decide_eq_false c11
            clear c11
            (first | rw [c11b0] | (simp only [i64_w, i32_w]; rw [c11b0]) | skip)
            have H' := Aside0.mk H
            clear H
            have hcz13_0 : wr.cell? ⟨gb144, 0, none⟩ = some (.slice A0_0 l0_0.length c0_0) := (blk_cell BK144.out 0).trans rfl
            have hcz13_1 : wr.cell? ⟨gb144, 1, none⟩ = some (.int .i64 a0_1) := (blk_cell BK144.out 1).trans rfl
            have hcz13_2 : wr.cell? ⟨gb144, 2, none⟩ = some (.int .i64 a0_2) := (blk_cell BK144.out 2).trans rfl
            have hcz13_3 : wr.cell? ⟨gb144, 3, none⟩ = some (.int .i64 a0_3) := (blk_cell BK144.out 3).trans rfl
            have hcz13_4 : wr.cell? ⟨gb144, 4, none⟩ = some (.int .i64 a0_4) := (blk_cell BK144.out 4).trans rfl
            have hcz13_5 : wr.cell? ⟨gb144, 5, none⟩ = some (.int .i64 a0_5) := (blk_cell BK144.out 5).trans rfl
            have hcz13_6 : wr.cell? ⟨gb144, 6, none⟩ = some (.int .i64 a0_6) := (blk_cell BK144.out 6).trans rfl
            have hcz13_7 : wr.cell? ⟨gb144, 7, none⟩ = some (.int .i64 a0_7) := (blk_cell BK144.out 7).trans rfl
            have hfz13_0 := blk_frozen BK144.out 0
            have hfz13_1 := blk_frozen BK144.out 1
            have hfz13_2 := blk_frozen BK144.out 2
            have hfz13_3 := blk_frozen BK144.out 3
            have hfz13_4 := blk_frozen BK144.out 4
            have hfz13_5 := blk_frozen BK144.out 5
            have hfz13_6 := blk_frozen BK144.out 6
            have hfz13_7 := blk_frozen BK144.out 7
            go_wp2
            go_meet
            case rel => exact ⟨_, (false), (by first | rfl | (simp; done) | (simp [*]; done)), H', ⟨by have := HK1.out; first | omega | exact Nat.le_refl _⟩, ⟨by (with_reducible repeat (first | refine blk_drewN ?_ _ | refine blk_drew ?_ | refine blk_alloc ?_ _)); exact BK144.out⟩, ⟨by repeat (first | (with_reducible first | exact HB.out | apply below_alloc | apply pw_below_drewN | apply below_drew1 | refine below_set ?_ GE144.out) | exact HB.out)⟩⟩
        case rest =>
          clear HC10
          try clear c1
          try clear c2
          try clear p2
          try clear c3
          try clear c10
          try clear c11
          try clear c11b0
          try clear hcz12_0
          try clear hcz12_1
          try clear hcz12_2
          try clear hcz12_3
          try clear hcz12_4
          try clear hcz12_5
          try clear hcz12_6
          try clear hcz12_7
          try clear hcz13_0
          try clear hcz13_1
          try clear hcz13_2
          try clear hcz13_3
          try clear hcz13_4
          try clear hcz13_5
          try clear hcz13_6
          try clear hcz13_7
          try clear hcz5_0
          try clear hcz5_1
          try clear hcz5_2
          try clear hcz5_3
          try clear hcz5_4
          try clear hcz5_5
          try clear hcz5_6
          try clear hcz5_7
          try clear hcz8_0
          try clear hcz8_1
          try clear hcz8_2
          try clear hcz8_3
          try clear hcz8_4
          try clear hcz8_5
          try clear hcz8_6
          try clear hcz8_7
          try clear hfz12_0
          try clear hfz12_1
          try clear hfz12_2
          try clear hfz12_3
          try clear hfz12_4
          try clear hfz12_5
          try clear hfz12_6
          try clear hfz12_7
          try clear hfz13_0
          try clear hfz13_1
          try clear hfz13_2
          try clear hfz13_3
          try clear hfz13_4
          try clear hfz13_5
          try clear hfz13_6
          try clear hfz13_7
          try clear hfz5_0
          try clear hfz5_1
          try clear hfz5_2
          try clear hfz5_3
          try clear hfz5_4
          try clear hfz5_5
          try clear hfz5_6
          try clear hfz5_7
          try clear hfz8_0
          try clear hfz8_1
          try clear hfz8_2
          try clear hfz8_3
          try clear hfz8_4
          try clear hfz8_5
          try clear hfz8_6
          try clear hfz8_7
          try clear p2
          obtain ⟨kq, x39_9, rfl, HA, HJ9, BK144, HB⟩ := hcut
          cases kq with
          | zero => exact absurd HA.out (by simp [quilllaw14_PairsMates.j1])
          | succ kj9 =>
            have H := HA.out
            clear HA
            simp only [quilllaw14_PairsMates.j1] at H
            by_cases c14 : x39_9 = true
            · subst c14
              have H1 : (if 0 ≤ x3_1 then (if x3_1 < (l0_0.length : Int) then ((cv_9_52.f (rdOf ByteArray.empty l0_0 x3_1)).bind fun t148 => (if (t148.length : Int) > 120 then (quilllaw14_PairsMates.l0 kj9 (wrap64 (x3_1 + 1)) l0_0 a0_1 a0_2 a0_3 a0_4 a0_5 a0_6 a0_7) else (quilllaw14_PairsMates.l1 kj9 x3_1 (rdOf ByteArray.empty l0_0 x3_1) t148 (-1) l0_0 a0_1 a0_2 a0_3 a0_4 a0_5 a0_6 a0_7))) else (none)) else (none)) = some r := by rw [if_pos rfl] at H; exact H
              clear H
              have H := H1
              clear H1
              by_cases c15 : 0 ≤ x3_1
              · rw [if_pos c15] at H
                have c15b0 : decide (0 ≤ x3_1) = true := decide_eq_true c15
                clear c15
                by_cases c16 : x3_1 < (l0_0.length : Int)
                · rw [if_pos c16] at H
                  have c16b0 : decide (x3_1 < (l0_0.length : Int)) = true := decide_eq_true c16
                  clear c16
                  replace H := Option.bind_eq_some_iff.mp H
                  obtain ⟨t148, A170, H⟩ := H
                  replace H : (if (t148.length : Int) > 120 then (quilllaw14_PairsMates.l0 kj9 (wrap64 (x3_1 + 1)) l0_0 a0_1 a0_2 a0_3 a0_4 a0_5 a0_6 a0_7) else (quilllaw14_PairsMates.l1 kj9 x3_1 (rdOf ByteArray.empty l0_0 x3_1) t148 (-1) l0_0 a0_1 a0_2 a0_3 a0_4 a0_5 a0_6 a0_7)) = some r := H
                  have A17 := Aside0.mk A170
                  clear A170
                  by_cases c18 : (t148.length : Int) > 120
                  · rw [if_pos c18] at H
                    have c18b0 : decide (120 < (t148.length : Int)) = true := decide_eq_true c18
                    have c18b1 : decide (120 < t148.length) = true := decide_eq_true (by omega)
                    clear c18
                    have H' := Aside0.mk H
                    clear H
                    have hcz19_0 : wc.cell? ⟨gb144, 0, none⟩ = some (.slice A0_0 l0_0.length c0_0) := (blk_cell BK144.out 0).trans rfl
                    have hcz19_1 : wc.cell? ⟨gb144, 1, none⟩ = some (.int .i64 a0_1) := (blk_cell BK144.out 1).trans rfl
                    have hcz19_2 : wc.cell? ⟨gb144, 2, none⟩ = some (.int .i64 a0_2) := (blk_cell BK144.out 2).trans rfl
                    have hcz19_3 : wc.cell? ⟨gb144, 3, none⟩ = some (.int .i64 a0_3) := (blk_cell BK144.out 3).trans rfl
                    have hcz19_4 : wc.cell? ⟨gb144, 4, none⟩ = some (.int .i64 a0_4) := (blk_cell BK144.out 4).trans rfl
                    have hcz19_5 : wc.cell? ⟨gb144, 5, none⟩ = some (.int .i64 a0_5) := (blk_cell BK144.out 5).trans rfl
                    have hcz19_6 : wc.cell? ⟨gb144, 6, none⟩ = some (.int .i64 a0_6) := (blk_cell BK144.out 6).trans rfl
                    have hcz19_7 : wc.cell? ⟨gb144, 7, none⟩ = some (.int .i64 a0_7) := (blk_cell BK144.out 7).trans rfl
                    have hfz19_0 := blk_frozen BK144.out 0
                    have hfz19_1 := blk_frozen BK144.out 1
                    have hfz19_2 := blk_frozen BK144.out 2
                    have hfz19_3 := blk_frozen BK144.out 3
                    have hfz19_4 := blk_frozen BK144.out 4
                    have hfz19_5 := blk_frozen BK144.out 5
                    have hfz19_6 := blk_frozen BK144.out 6
                    have hfz19_7 := blk_frozen BK144.out 7
                    have p147 : 0 ≤ (x3_1 : Int) := of_decide_eq_true (by first | (with_reducible assumption) | assumption)
                    have q147 : x3_1 < (l0_0.length : Int) := of_decide_eq_true (by first | (with_reducible assumption) | assumption)
                    obtain ⟨ad147, e147, hx147_0⟩ := Kd.at_string HR0_0.out x3_1 p147 q147
                    cases e147
                    replace hx147_0 := (HB.out.cell (World.block_lt_of_cell? w _ hx147_0)).trans hx147_0
                    replace p147 := eq_true p147
                    replace q147 := eq_true q147
                    go_wp2_with (first | ((with_reducible refine gate_dst (N := 49) rfl ?_); (try (refine gate_guard (by rfl) ?_; dsimp only)); refine conv_ (some 49) rfl rfl (.string (rdOf ByteArray.empty l0_0 x3_1)) rfl (by first | rfl | (simp; done)) ?_; (with_reducible refine (cv_9_52.calls (rdOf ByteArray.empty l0_0 x3_1) t148 _ A17.out).mono ?_); rintro e w20 ⟨v149, rfl, ho0, hb⟩; refine ⟨_, rfl, ?_⟩; have n0_ := Aside0.mk (Kd.R_lower ho0 (below_size (by repeat (first | (with_reducible first | exact HB.out | apply below_alloc | apply pw_below_drewN | apply below_drew1 | refine below_set ?_ GE144.out) | exact HB.out)))); have n1_ := Aside0.mk (blk_below (g := gb144) (o := .cells #[.slice (some ad147) l0_0.length c0_0, .int .i64 a0_1, .int .i64 a0_2, .int .i64 a0_3, .int .i64 a0_4, .int .i64 a0_5, .int .i64 a0_6, .int .i64 a0_7] 50 (0, 0)) (by (with_reducible repeat (first | refine blk_drewN ?_ _ | refine blk_drew ?_ | refine blk_alloc ?_ _)); exact BK144.out) hb); have n2_ := Aside0.mk (below_step (by repeat (first | (with_reducible first | exact HB.out | apply below_alloc | apply pw_below_drewN | apply below_drew1 | refine below_set ?_ GE144.out) | exact HB.out)) hb); clear BK144; clear HB; have HO150 := n0_; have BK144 := n1_; have HB := n2_; clear n0_ n1_ n2_; (try clear hb); (try clear hb2); (try clear hk); (try clear hi); (try clear ho0); obtain ⟨Ao21, co21, eo21⟩ := Kd.R_slice HO150.out; subst eo21))
                    go_roundg kj9
                    case measure => have := HK1.out; have := HJ9.out; omega
                    case rel => exact ⟨(wrap64 (x3_1 + 1)), (by first | rfl | (simp; done) | (simp [*]; done)), H', ⟨by have := HK1.out; have := HJ9.out; omega⟩, ⟨by (with_reducible repeat (first | refine blk_drewN ?_ _ | refine blk_drew ?_ | refine blk_alloc ?_ _)); exact BK144.out⟩, ⟨by repeat (first | (with_reducible first | exact HB.out | apply below_alloc | apply pw_below_drewN | apply below_drew1 | refine below_set ?_ GE144.out) | exact HB.out)⟩⟩
                  · rw [if_neg c18] at H
                    have c18b0 : decide (120 < (t148.length : Int)) = false := decide_eq_false c18
                    have c18b1 : decide (120 < t148.length) = false := decide_eq_false (by omega)
                    clear c18
                    have H' := Aside0.mk H
                    clear H
                    have hcz22_0 : wc.cell? ⟨gb144, 0, none⟩ = some (.slice A0_0 l0_0.length c0_0) := (blk_cell BK144.out 0).trans rfl
                    have hcz22_1 : wc.cell? ⟨gb144, 1, none⟩ = some (.int .i64 a0_1) := (blk_cell BK144.out 1).trans rfl
                    have hcz22_2 : wc.cell? ⟨gb144, 2, none⟩ = some (.int .i64 a0_2) := (blk_cell BK144.out 2).trans rfl
                    have hcz22_3 : wc.cell? ⟨gb144, 3, none⟩ = some (.int .i64 a0_3) := (blk_cell BK144.out 3).trans rfl
                    have hcz22_4 : wc.cell? ⟨gb144, 4, none⟩ = some (.int .i64 a0_4) := (blk_cell BK144.out 4).trans rfl
                    have hcz22_5 : wc.cell? ⟨gb144, 5, none⟩ = some (.int .i64 a0_5) := (blk_cell BK144.out 5).trans rfl
                    have hcz22_6 : wc.cell? ⟨gb144, 6, none⟩ = some (.int .i64 a0_6) := (blk_cell BK144.out 6).trans rfl
                    have hcz22_7 : wc.cell? ⟨gb144, 7, none⟩ = some (.int .i64 a0_7) := (blk_cell BK144.out 7).trans rfl
                    have hfz22_0 := blk_frozen BK144.out 0
                    have hfz22_1 := blk_frozen BK144.out 1
                    have hfz22_2 := blk_frozen BK144.out 2
                    have hfz22_3 := blk_frozen BK144.out 3
                    have hfz22_4 := blk_frozen BK144.out 4
                    have hfz22_5 := blk_frozen BK144.out 5
                    have hfz22_6 := blk_frozen BK144.out 6
                    have hfz22_7 := blk_frozen BK144.out 7
                    have p147 : 0 ≤ (x3_1 : Int) := of_decide_eq_true (by first | (with_reducible assumption) | assumption)
                    have q147 : x3_1 < (l0_0.length : Int) := of_decide_eq_true (by first | (with_reducible assumption) | assumption)
                    obtain ⟨ad147, e147, hx147_0⟩ := Kd.at_string HR0_0.out x3_1 p147 q147
                    cases e147
                    replace hx147_0 := (HB.out.cell (World.block_lt_of_cell? w _ hx147_0)).trans hx147_0
                    replace p147 := eq_true p147
                    replace q147 := eq_true q147
                    go_wp2_with (first | ((with_reducible refine gate_dst (N := 49) rfl ?_); (try (refine gate_guard (by rfl) ?_; dsimp only)); refine conv_ (some 49) rfl rfl (.string (rdOf ByteArray.empty l0_0 x3_1)) rfl (by first | rfl | (simp; done)) ?_; (with_reducible refine (cv_9_52.calls (rdOf ByteArray.empty l0_0 x3_1) t148 _ A17.out).mono ?_); rintro e w23 ⟨v149, rfl, ho0, hb⟩; refine ⟨_, rfl, ?_⟩; have n0_ := Aside0.mk (Kd.R_lower ho0 (below_size (by repeat (first | (with_reducible first | exact HB.out | apply below_alloc | apply pw_below_drewN | apply below_drew1 | refine below_set ?_ GE144.out) | exact HB.out)))); have n1_ := Aside0.mk (blk_below (g := gb144) (o := .cells #[.slice (some ad147) l0_0.length c0_0, .int .i64 a0_1, .int .i64 a0_2, .int .i64 a0_3, .int .i64 a0_4, .int .i64 a0_5, .int .i64 a0_6, .int .i64 a0_7] 50 (0, 0)) (by (with_reducible repeat (first | refine blk_drewN ?_ _ | refine blk_drew ?_ | refine blk_alloc ?_ _)); exact BK144.out) hb); have n2_ := Aside0.mk (below_step (by repeat (first | (with_reducible first | exact HB.out | apply below_alloc | apply pw_below_drewN | apply below_drew1 | refine below_set ?_ GE144.out) | exact HB.out)) hb); clear BK144; clear HB; have HO150 := n0_; have BK144 := n1_; have HB := n2_; clear n0_ n1_ n2_; (try clear hb); (try clear hb2); (try clear hk); (try clear hi); (try clear ho0); obtain ⟨Ao24, co24, eo24⟩ := Kd.R_slice HO150.out; subst eo24))
                    go_loopg [6] kj9 (fun kq v6 w' => ∃ (x6_3 : Int), v6 = .int .i64 x6_3 ∧ Aside0 (quilllaw14_PairsMates.l1 kq x3_1 (rdOf ByteArray.empty l0_0 x3_1) t148 x6_3 l0_0 a0_1 a0_2 a0_3 a0_4 a0_5 a0_6 a0_7 = some r) ∧ Aside0 (kq ≤ kj9) ∧ Aside0 (Kd.R (Kd.int .i32) 21 w' w.heap.size (fun _ => True) (.slice Ao24 t148.length co24) t148) ∧ Aside0 (w'.heap[gb144]? = some (.cells #[(.slice (some ad147) l0_0.length c0_0), .int .i64 a0_1, .int .i64 a0_2, .int .i64 a0_3, .int .i64 a0_4, .int .i64 a0_5, .int .i64 a0_6, .int .i64 a0_7] 50 (0, 0))) ∧ Aside0 (Below w.heap.size w w'))
                    case atStart => exact ⟨((-1)), (by first | rfl | (simp; done) | (simp [*]; done)), H', ⟨Nat.le_refl _⟩, ⟨by (with_reducible repeat (first | apply Kd.R_alloc | apply Kd.R_drewN | apply Kd.R_drew)); exact HO150.out⟩, ⟨by (with_reducible repeat (first | refine blk_drewN ?_ _ | refine blk_drew ?_ | refine blk_alloc ?_ _)); exact BK144.out⟩, ⟨by repeat (first | (with_reducible first | exact HB.out | apply below_alloc | apply pw_below_drewN | apply below_drew1 | refine below_set ?_ GE144.out) | exact HB.out)⟩⟩
                    case round =>
                      clear H'
                      try clear c1
                      try clear p1
                      try clear q1
                      try clear hx1
                      try clear c2
                      try clear p2
                      try clear c3
                      try clear p6
                      try clear c10
                      try clear c11
                      try clear c11b0
                      try clear c14
                      try clear p14
                      try clear q14
                      try clear hx14
                      try clear c15
                      try clear c15b0
                      try clear c16
                      try clear c16b0
                      try clear c18
                      try clear c18b0
                      try clear c18b1
                      try clear hcz12_0
                      try clear hcz12_1
                      try clear hcz12_2
                      try clear hcz12_3
                      try clear hcz12_4
                      try clear hcz12_5
                      try clear hcz12_6
                      try clear hcz12_7
                      try clear hcz13_0
                      try clear hcz13_1
                      try clear hcz13_2
                      try clear hcz13_3
                      try clear hcz13_4
                      try clear hcz13_5
                      try clear hcz13_6
                      try clear hcz13_7
                      try clear hcz19_0
                      try clear hcz19_1
                      try clear hcz19_2
                      try clear hcz19_3
                      try clear hcz19_4
                      try clear hcz19_5
                      try clear hcz19_6
                      try clear hcz19_7
                      try clear hcz22_0
                      try clear hcz22_1
                      try clear hcz22_2
                      try clear hcz22_3
                      try clear hcz22_4
                      try clear hcz22_5
                      try clear hcz22_6
                      try clear hcz22_7
                      try clear hcz5_0
                      try clear hcz5_1
                      try clear hcz5_2
                      try clear hcz5_3
                      try clear hcz5_4
                      try clear hcz5_5
                      try clear hcz5_6
                      try clear hcz5_7
                      try clear hcz8_0
                      try clear hcz8_1
                      try clear hcz8_2
                      try clear hcz8_3
                      try clear hcz8_4
                      try clear hcz8_5
                      try clear hcz8_6
                      try clear hcz8_7
                      try clear hfz12_0
                      try clear hfz12_1
                      try clear hfz12_2
                      try clear hfz12_3
                      try clear hfz12_4
                      try clear hfz12_5
                      try clear hfz12_6
                      try clear hfz12_7
                      try clear hfz13_0
                      try clear hfz13_1
                      try clear hfz13_2
                      try clear hfz13_3
                      try clear hfz13_4
                      try clear hfz13_5
                      try clear hfz13_6
                      try clear hfz13_7
                      try clear hfz19_0
                      try clear hfz19_1
                      try clear hfz19_2
                      try clear hfz19_3
                      try clear hfz19_4
                      try clear hfz19_5
                      try clear hfz19_6
                      try clear hfz19_7
                      try clear hfz22_0
                      try clear hfz22_1
                      try clear hfz22_2
                      try clear hfz22_3
                      try clear hfz22_4
                      try clear hfz22_5
                      try clear hfz22_6
                      try clear hfz22_7
                      try clear hfz5_0
                      try clear hfz5_1
                      try clear hfz5_2
                      try clear hfz5_3
                      try clear hfz5_4
                      try clear hfz5_5
                      try clear hfz5_6
                      try clear hfz5_7
                      try clear hfz8_0
                      try clear hfz8_1
                      try clear hfz8_2
                      try clear hfz8_3
                      try clear hfz8_4
                      try clear hfz8_5
                      try clear hfz8_6
                      try clear hfz8_7
                      try clear hx147_0
                      try clear p147
                      try clear p2
                      try clear q147
                      obtain ⟨x6_3, rfl, HA, HK3, HO_5, BK144, HB⟩ := hrel
                      cases gk with
                      | zero => exact absurd HA.out (by simp [quilllaw14_PairsMates.l1])
                      | succ k3 =>
                        have H := HA.out
                        clear HA
                        simp only [quilllaw14_PairsMates.l1] at H
                        by_cases c25 : x6_3 ≤ (wrap64 ((t148.length : Int) + 1))
                        · rw [if_pos c25] at H
                          have c25b0 : decide (x6_3 ≤ (wrap64 ((t148.length : Int) + 1))) = true := decide_eq_true c25
                          clear c25
                          have HC26 := Aside0.mk H
                          clear H
                          go_upto_region 12 with (fail)
                          go_cut [7] (fun v7 wc => ∃ (kq : Nat) (x7_25 : Bool), v7 = .bool x7_25 ∧ Aside0 (quilllaw14_PairsMates.j3 kq x3_1 (rdOf ByteArray.empty l0_0 x3_1) t148 x6_3 x7_25 l0_0 a0_1 a0_2 a0_3 a0_4 a0_5 a0_6 a0_7 = some r) ∧ Aside0 (kq ≤ k3) ∧ Aside0 (Kd.R (Kd.int .i32) 21 wc w.heap.size (fun _ => True) (.slice Ao24 t148.length co24) t148) ∧ Aside0 (wc.heap[gb144]? = some (.cells #[(.slice (some ad147) l0_0.length c0_0), .int .i64 a0_1, .int .i64 a0_2, .int .i64 a0_3, .int .i64 a0_4, .int .i64 a0_5, .int .i64 a0_6, .int .i64 a0_7] 50 (0, 0))) ∧ Aside0 (Below w.heap.size w wc))
                          case first => as_aux_lemma =>
                            have H := HC26.out
                            clear HC26
                            replace H := Option.bind_eq_some_iff.mp H
                            obtain ⟨t151, A270, H⟩ := H
                            replace H : (if t151 = true then ((quillref0_Num.f x6_3 (t148.length : Int)).bind fun t152 => (quilllaw14_PairsMates.j3 k3 x3_1 (rdOf ByteArray.empty l0_0 x3_1) t148 x6_3 t152 l0_0 a0_1 a0_2 a0_3 a0_4 a0_5 a0_6 a0_7)) else (quilllaw14_PairsMates.j3 k3 x3_1 (rdOf ByteArray.empty l0_0 x3_1) t148 x6_3 false l0_0 a0_1 a0_2 a0_3 a0_4 a0_5 a0_6 a0_7)) = some r := H
                            have A27 := Aside0.mk A270
                            clear A270
                            by_cases c28 : t151 = true
                            · subst c28
                              have H1 : ((quillref0_Num.f x6_3 (t148.length : Int)).bind fun t152 => (quilllaw14_PairsMates.j3 k3 x3_1 (rdOf ByteArray.empty l0_0 x3_1) t148 x6_3 t152 l0_0 a0_1 a0_2 a0_3 a0_4 a0_5 a0_6 a0_7)) = some r := by rw [if_pos rfl] at H; exact H
                              clear H
                              have H := H1
                              clear H1
                              replace H := Option.bind_eq_some_iff.mp H
                              obtain ⟨t152, A290, H⟩ := H
                              replace H : (quilllaw14_PairsMates.j3 k3 x3_1 (rdOf ByteArray.empty l0_0 x3_1) t148 x6_3 t152 l0_0 a0_1 a0_2 a0_3 a0_4 a0_5 a0_6 a0_7) = some r := H
                              have A29 := Aside0.mk A290
                              clear A290
                              have H' := Aside0.mk H
                              clear H
                              go_wp2_with (first | ((with_reducible refine gate_callee (f := 15) rfl ?_); refine goesL_ (some 61) rfl rfl Tryd.func15 (by as_aux_lemma => kernel_rfl) rfl #[.string (rdOf ByteArray.empty l0_0 x3_1)] rfl (by (try simp only [List.map_toArray, List.map_cons, List.map_nil]); first | done | rfl | (simp only [List.length_drop, List.length_take]; rfl)) ?_; (with_reducible refine (quillref1_May.calls k3 (rdOf ByteArray.empty l0_0 x3_1) true _ ?side1 A27.out).mono ?_); (case side1 => repeat (first | exact HT.out | exact T_below HT.out HB.out | (with_reducible refine T_alloc ?_ _) | (with_reducible refine T_drewN ?_ _) | (with_reducible refine T_drew ?_) | exact T_below HT.out (by repeat (first | (with_reducible first | exact HB.out | apply below_alloc | apply pw_below_drewN | apply below_drew1 | refine below_set ?_ GE144.out) | exact HB.out)))); rintro e w30 ⟨rfl, hb⟩; refine ⟨_, rfl, ?_⟩; have n0_ := Aside0.mk (Kd.R_below (by (with_reducible repeat (first | apply Kd.R_alloc | apply Kd.R_drewN | apply Kd.R_drew)); exact HO_5.out) hb); have n1_ := Aside0.mk (blk_below (g := gb144) (o := .cells #[.slice (some ad147) l0_0.length c0_0, .int .i64 a0_1, .int .i64 a0_2, .int .i64 a0_3, .int .i64 a0_4, .int .i64 a0_5, .int .i64 a0_6, .int .i64 a0_7] 50 (0, 0)) (by (with_reducible repeat (first | refine blk_drewN ?_ _ | refine blk_drew ?_ | refine blk_alloc ?_ _)); exact BK144.out) hb); have n2_ := Aside0.mk (below_step (by repeat (first | (with_reducible first | exact HB.out | apply below_alloc | apply pw_below_drewN | apply below_drew1 | refine below_set ?_ GE144.out) | exact HB.out)) hb); clear HO_5; clear BK144; clear HB; have HO_5 := n0_; have BK144 := n1_; have HB := n2_; clear n0_ n1_ n2_; (try clear hb); (try clear hb2); (try clear hk); (try clear hi)) | (go_at_call 22; (with_reducible refine (quillref0_Num.calls x6_3 (t148.length : Int) t152 _ A29.out).mono ?_); rintro e w' ⟨rfl, ⟨nd, rfl⟩⟩))
                              go_meet
                              case rel => exact ⟨_, (t152), (by first | rfl | (simp; done) | (simp [*]; done)), H', ⟨by have := HK1.out; have := HJ9.out; have := HK3.out; first | omega | exact Nat.le_refl _⟩, ⟨by (with_reducible repeat (first | apply Kd.R_alloc | apply Kd.R_drewN | apply Kd.R_drew)); exact HO_5.out⟩, ⟨by (with_reducible repeat (first | refine blk_drewN ?_ _ | refine blk_drew ?_ | refine blk_alloc ?_ _)); exact BK144.out⟩, ⟨by repeat (first | (with_reducible first | exact HB.out | apply below_alloc | apply pw_below_drewN | apply below_drew1 | refine below_set ?_ GE144.out) | exact HB.out)⟩⟩
                            · replace c28 := Bool.eq_false_iff.mpr c28
                              subst c28
                              have H1 : (quilllaw14_PairsMates.j3 k3 x3_1 (rdOf ByteArray.empty l0_0 x3_1) t148 x6_3 false l0_0 a0_1 a0_2 a0_3 a0_4 a0_5 a0_6 a0_7) = some r := by rw [if_neg (show ¬ (false = true) by decide)] at H; exact H
                              clear H
                              have H := H1
                              clear H1
                              have H' := Aside0.mk H
                              clear H
                              go_wp2_with (first | ((with_reducible refine gate_callee (f := 15) rfl ?_); refine goesL_ (some 61) rfl rfl Tryd.func15 (by as_aux_lemma => kernel_rfl) rfl #[.string (rdOf ByteArray.empty l0_0 x3_1)] rfl (by (try simp only [List.map_toArray, List.map_cons, List.map_nil]); first | done | rfl | (simp only [List.length_drop, List.length_take]; rfl)) ?_; (with_reducible refine (quillref1_May.calls k3 (rdOf ByteArray.empty l0_0 x3_1) false _ ?side1 A27.out).mono ?_); (case side1 => repeat (first | exact HT.out | exact T_below HT.out HB.out | (with_reducible refine T_alloc ?_ _) | (with_reducible refine T_drewN ?_ _) | (with_reducible refine T_drew ?_) | exact T_below HT.out (by repeat (first | (with_reducible first | exact HB.out | apply below_alloc | apply pw_below_drewN | apply below_drew1 | refine below_set ?_ GE144.out) | exact HB.out)))); rintro e w31 ⟨rfl, hb⟩; refine ⟨_, rfl, ?_⟩; have n0_ := Aside0.mk (Kd.R_below (by (with_reducible repeat (first | apply Kd.R_alloc | apply Kd.R_drewN | apply Kd.R_drew)); exact HO_5.out) hb); have n1_ := Aside0.mk (blk_below (g := gb144) (o := .cells #[.slice (some ad147) l0_0.length c0_0, .int .i64 a0_1, .int .i64 a0_2, .int .i64 a0_3, .int .i64 a0_4, .int .i64 a0_5, .int .i64 a0_6, .int .i64 a0_7] 50 (0, 0)) (by (with_reducible repeat (first | refine blk_drewN ?_ _ | refine blk_drew ?_ | refine blk_alloc ?_ _)); exact BK144.out) hb); have n2_ := Aside0.mk (below_step (by repeat (first | (with_reducible first | exact HB.out | apply below_alloc | apply pw_below_drewN | apply below_drew1 | refine below_set ?_ GE144.out) | exact HB.out)) hb); clear HO_5; clear BK144; clear HB; have HO_5 := n0_; have BK144 := n1_; have HB := n2_; clear n0_ n1_ n2_; (try clear hb); (try clear hb2); (try clear hk); (try clear hi)))
                              go_meet
                              case rel => exact ⟨_, (false), (by first | rfl | (simp; done) | (simp [*]; done)), H', ⟨by have := HK1.out; have := HJ9.out; have := HK3.out; first | omega | exact Nat.le_refl _⟩, ⟨by (with_reducible repeat (first | apply Kd.R_alloc | apply Kd.R_drewN | apply Kd.R_drew)); exact HO_5.out⟩, ⟨by (with_reducible repeat (first | refine blk_drewN ?_ _ | refine blk_drew ?_ | refine blk_alloc ?_ _)); exact BK144.out⟩, ⟨by repeat (first | (with_reducible first | exact HB.out | apply below_alloc | apply pw_below_drewN | apply below_drew1 | refine below_set ?_ GE144.out) | exact HB.out)⟩⟩
                          case rest =>
                            clear HC26
                            try clear c1
                            try clear p1
                            try clear q1
                            try clear hx1
                            try clear c2
                            try clear p2
                            try clear c3
                            try clear p6
                            try clear c10
                            try clear c11
                            try clear c11b0
                            try clear c14
                            try clear p14
                            try clear q14
                            try clear hx14
                            try clear c15
                            try clear c15b0
                            try clear c16
                            try clear c16b0
                            try clear c18
                            try clear c18b0
                            try clear c18b1
                            try clear c25
                            try clear c25b0
                            try clear c28
                            try clear hcz12_0
                            try clear hcz12_1
                            try clear hcz12_2
                            try clear hcz12_3
                            try clear hcz12_4
                            try clear hcz12_5
                            try clear hcz12_6
                            try clear hcz12_7
                            try clear hcz13_0
                            try clear hcz13_1
                            try clear hcz13_2
                            try clear hcz13_3
                            try clear hcz13_4
                            try clear hcz13_5
                            try clear hcz13_6
                            try clear hcz13_7
                            try clear hcz19_0
                            try clear hcz19_1
                            try clear hcz19_2
                            try clear hcz19_3
                            try clear hcz19_4
                            try clear hcz19_5
                            try clear hcz19_6
                            try clear hcz19_7
                            try clear hcz22_0
                            try clear hcz22_1
                            try clear hcz22_2
                            try clear hcz22_3
                            try clear hcz22_4
                            try clear hcz22_5
                            try clear hcz22_6
                            try clear hcz22_7
                            try clear hcz5_0
                            try clear hcz5_1
                            try clear hcz5_2
                            try clear hcz5_3
                            try clear hcz5_4
                            try clear hcz5_5
                            try clear hcz5_6
                            try clear hcz5_7
                            try clear hcz8_0
                            try clear hcz8_1
                            try clear hcz8_2
                            try clear hcz8_3
                            try clear hcz8_4
                            try clear hcz8_5
                            try clear hcz8_6
                            try clear hcz8_7
                            try clear hfz12_0
                            try clear hfz12_1
                            try clear hfz12_2
                            try clear hfz12_3
                            try clear hfz12_4
                            try clear hfz12_5
                            try clear hfz12_6
                            try clear hfz12_7
                            try clear hfz13_0
                            try clear hfz13_1
                            try clear hfz13_2
                            try clear hfz13_3
                            try clear hfz13_4
                            try clear hfz13_5
                            try clear hfz13_6
                            try clear hfz13_7
                            try clear hfz19_0
                            try clear hfz19_1
                            try clear hfz19_2
                            try clear hfz19_3
                            try clear hfz19_4
                            try clear hfz19_5
                            try clear hfz19_6
                            try clear hfz19_7
                            try clear hfz22_0
                            try clear hfz22_1
                            try clear hfz22_2
                            try clear hfz22_3
                            try clear hfz22_4
                            try clear hfz22_5
                            try clear hfz22_6
                            try clear hfz22_7
                            try clear hfz5_0
                            try clear hfz5_1
                            try clear hfz5_2
                            try clear hfz5_3
                            try clear hfz5_4
                            try clear hfz5_5
                            try clear hfz5_6
                            try clear hfz5_7
                            try clear hfz8_0
                            try clear hfz8_1
                            try clear hfz8_2
                            try clear hfz8_3
                            try clear hfz8_4
                            try clear hfz8_5
                            try clear hfz8_6
                            try clear hfz8_7
                            try clear hx147_0
                            try clear p1
                            try clear p14
                            try clear p147
                            try clear p2
                            try clear p6
                            try clear q1
                            try clear q14
                            try clear q147
                            obtain ⟨kq, x7_25, rfl, HA, HJ25, HO_5, BK144, HB⟩ := hcut
                            cases kq with
                            | zero => exact absurd HA.out (by simp [quilllaw14_PairsMates.j3])
                            | succ kj25 =>
                              have H := HA.out
                              clear HA
                              simp only [quilllaw14_PairsMates.j3] at H
                              replace H := Option.bind_eq_some_iff.mp H
                              obtain ⟨⟨t153, t154⟩, A320, H⟩ := H
                              replace H : ((pairs_Move.f (rdOf ByteArray.empty l0_0 x3_1) x6_3).bind fun bt155 => (if x7_25 = true then ((quillref12_Mate.f kj25 t148 x6_3).bind fun t157 => (if t157 ≥ 0 then ((quillref12_Pair.f kj25 t148 x6_3).bind fun t158 => (if t158 ≥ 0 then (quilllaw14_PairsMates.j4 kj25 x3_1 (rdOf ByteArray.empty l0_0 x3_1) t148 x6_3 x7_25 t153 t154 bt155.1 bt155.2 0 0 t157 t158 l0_0 a0_1 a0_2 a0_3 a0_4 a0_5 a0_6 a0_7) else (quilllaw14_PairsMates.j4 kj25 x3_1 (rdOf ByteArray.empty l0_0 x3_1) t148 x6_3 x7_25 t153 t154 bt155.1 bt155.2 0 6 t157 0 l0_0 a0_1 a0_2 a0_3 a0_4 a0_5 a0_6 a0_7))) else ((quillref12_Pair.f kj25 t148 x6_3).bind fun t159 => (if t159 ≥ 0 then (quilllaw14_PairsMates.j4 kj25 x3_1 (rdOf ByteArray.empty l0_0 x3_1) t148 x6_3 x7_25 t153 t154 bt155.1 bt155.2 6 0 0 t159 l0_0 a0_1 a0_2 a0_3 a0_4 a0_5 a0_6 a0_7) else (quilllaw14_PairsMates.j4 kj25 x3_1 (rdOf ByteArray.empty l0_0 x3_1) t148 x6_3 x7_25 t153 t154 bt155.1 bt155.2 6 6 0 0 l0_0 a0_1 a0_2 a0_3 a0_4 a0_5 a0_6 a0_7))))) else (quilllaw14_PairsMates.j4 kj25 x3_1 (rdOf ByteArray.empty l0_0 x3_1) t148 x6_3 x7_25 t153 t154 bt155.1 bt155.2 1 1 0 0 l0_0 a0_1 a0_2 a0_3 a0_4 a0_5 a0_6 a0_7))) = some r := H
                              have A32 := Aside0.mk A320
                              clear A320
                              replace H := Option.bind_eq_some_iff.mp H
                              obtain ⟨⟨t155, t156⟩, A330, H⟩ := H
                              replace H : (if x7_25 = true then ((quillref12_Mate.f kj25 t148 x6_3).bind fun t157 => (if t157 ≥ 0 then ((quillref12_Pair.f kj25 t148 x6_3).bind fun t158 => (if t158 ≥ 0 then (quilllaw14_PairsMates.j4 kj25 x3_1 (rdOf ByteArray.empty l0_0 x3_1) t148 x6_3 x7_25 t153 t154 t155 t156 0 0 t157 t158 l0_0 a0_1 a0_2 a0_3 a0_4 a0_5 a0_6 a0_7) else (quilllaw14_PairsMates.j4 kj25 x3_1 (rdOf ByteArray.empty l0_0 x3_1) t148 x6_3 x7_25 t153 t154 t155 t156 0 6 t157 0 l0_0 a0_1 a0_2 a0_3 a0_4 a0_5 a0_6 a0_7))) else ((quillref12_Pair.f kj25 t148 x6_3).bind fun t159 => (if t159 ≥ 0 then (quilllaw14_PairsMates.j4 kj25 x3_1 (rdOf ByteArray.empty l0_0 x3_1) t148 x6_3 x7_25 t153 t154 t155 t156 6 0 0 t159 l0_0 a0_1 a0_2 a0_3 a0_4 a0_5 a0_6 a0_7) else (quilllaw14_PairsMates.j4 kj25 x3_1 (rdOf ByteArray.empty l0_0 x3_1) t148 x6_3 x7_25 t153 t154 t155 t156 6 6 0 0 l0_0 a0_1 a0_2 a0_3 a0_4 a0_5 a0_6 a0_7))))) else (quilllaw14_PairsMates.j4 kj25 x3_1 (rdOf ByteArray.empty l0_0 x3_1) t148 x6_3 x7_25 t153 t154 t155 t156 1 1 0 0 l0_0 a0_1 a0_2 a0_3 a0_4 a0_5 a0_6 a0_7)) = some r := H
                              have A33 := Aside0.mk A330
                              clear A330
                              have HC34 := Aside0.mk H
                              clear H
                              go_upto_if 80 with (first | ((with_reducible refine gate_callee (f := 40) rfl ?_); refine goesL_ (some 71) rfl rfl Tryd.func40 (by as_aux_lemma => kernel_rfl) rfl #[.string (rdOf ByteArray.empty l0_0 x3_1), .int .i64 x6_3] rfl (by (try simp only [List.map_toArray, List.map_cons, List.map_nil]); first | done | rfl | (simp only [List.length_drop, List.length_take]; rfl)) ?_; (with_reducible refine (pairs_Mate.calls (rdOf ByteArray.empty l0_0 x3_1) x6_3 t153 t154 _ ?side1 A32.out).mono ?_); (case side1 => repeat (first | exact HT.out | exact T_below HT.out HB.out | (with_reducible refine T_alloc ?_ _) | (with_reducible refine T_drewN ?_ _) | (with_reducible refine T_drew ?_) | exact T_below HT.out (by repeat (first | (with_reducible first | exact HB.out | apply below_alloc | apply pw_below_drewN | apply below_drew1 | refine below_set ?_ GE144.out) | exact HB.out)))); rintro e w35 ⟨rfl, hb⟩; refine ⟨_, rfl, ?_⟩; have n0_ := Aside0.mk (Kd.R_below (by (with_reducible repeat (first | apply Kd.R_alloc | apply Kd.R_drewN | apply Kd.R_drew)); exact HO_5.out) hb); have n1_ := Aside0.mk (blk_below (g := gb144) (o := .cells #[.slice (some ad147) l0_0.length c0_0, .int .i64 a0_1, .int .i64 a0_2, .int .i64 a0_3, .int .i64 a0_4, .int .i64 a0_5, .int .i64 a0_6, .int .i64 a0_7] 50 (0, 0)) (by (with_reducible repeat (first | refine blk_drewN ?_ _ | refine blk_drew ?_ | refine blk_alloc ?_ _)); exact BK144.out) hb); have n2_ := Aside0.mk (below_step (by repeat (first | (with_reducible first | exact HB.out | apply below_alloc | apply pw_below_drewN | apply below_drew1 | refine below_set ?_ GE144.out) | exact HB.out)) hb); clear HO_5; clear BK144; clear HB; have HO_5 := n0_; have BK144 := n1_; have HB := n2_; clear n0_ n1_ n2_; (try clear hb); (try clear hb2); (try clear hk); (try clear hi)) | ((with_reducible refine gate_callee (f := 44) rfl ?_); refine goesL_ (some 77) rfl rfl Tryd.func44 (by as_aux_lemma => kernel_rfl) rfl #[.string (rdOf ByteArray.empty l0_0 x3_1), .int .i64 x6_3] rfl (by (try simp only [List.map_toArray, List.map_cons, List.map_nil]); first | done | rfl | (simp only [List.length_drop, List.length_take]; rfl)) ?_; (with_reducible refine (pairs_Move.calls (rdOf ByteArray.empty l0_0 x3_1) x6_3 t155 t156 _ ?side1 A33.out).mono ?_); (case side1 => repeat (first | exact HT.out | exact T_below HT.out HB.out | (with_reducible refine T_alloc ?_ _) | (with_reducible refine T_drewN ?_ _) | (with_reducible refine T_drew ?_) | exact T_below HT.out (by repeat (first | (with_reducible first | exact HB.out | apply below_alloc | apply pw_below_drewN | apply below_drew1 | refine below_set ?_ GE144.out) | exact HB.out)))); rintro e w36 ⟨rfl, hb⟩; refine ⟨_, rfl, ?_⟩; have n0_ := Aside0.mk (Kd.R_below (by (with_reducible repeat (first | apply Kd.R_alloc | apply Kd.R_drewN | apply Kd.R_drew)); exact HO_5.out) hb); have n1_ := Aside0.mk (blk_below (g := gb144) (o := .cells #[.slice (some ad147) l0_0.length c0_0, .int .i64 a0_1, .int .i64 a0_2, .int .i64 a0_3, .int .i64 a0_4, .int .i64 a0_5, .int .i64 a0_6, .int .i64 a0_7] 50 (0, 0)) (by (with_reducible repeat (first | refine blk_drewN ?_ _ | refine blk_drew ?_ | refine blk_alloc ?_ _)); exact BK144.out) hb); have n2_ := Aside0.mk (below_step (by repeat (first | (with_reducible first | exact HB.out | apply below_alloc | apply pw_below_drewN | apply below_drew1 | refine below_set ?_ GE144.out) | exact HB.out)) hb); clear HO_5; clear BK144; clear HB; have HO_5 := n0_; have BK144 := n1_; have HB := n2_; clear n0_ n1_ n2_; (try clear hb); (try clear hb2); (try clear hk); (try clear hi)))
                              (try simp only [Act.put, List.setIfInBounds_toArray, List.set_cons_zero, List.set_cons_succ])
                              go_cut [12, 13, 14, 15] (fun v12 v13 v14 v15 wc => ∃ (kq : Nat) (x12_33 : Int) (x13_33 : Int) (x14_33 : Int) (x15_33 : Int), v12 = .int .i64 x12_33 ∧ v13 = .int .i64 x13_33 ∧ v14 = .int .i64 x14_33 ∧ v15 = .int .i64 x15_33 ∧ Aside0 (quilllaw14_PairsMates.j4 kq x3_1 (rdOf ByteArray.empty l0_0 x3_1) t148 x6_3 x7_25 t153 t154 t155 t156 x12_33 x13_33 x14_33 x15_33 l0_0 a0_1 a0_2 a0_3 a0_4 a0_5 a0_6 a0_7 = some r) ∧ Aside0 (kq ≤ kj25) ∧ Aside0 (Kd.R (Kd.int .i32) 21 wc w.heap.size (fun _ => True) (.slice Ao24 t148.length co24) t148) ∧ Aside0 (wc.heap[gb144]? = some (.cells #[(.slice (some ad147) l0_0.length c0_0), .int .i64 a0_1, .int .i64 a0_2, .int .i64 a0_3, .int .i64 a0_4, .int .i64 a0_5, .int .i64 a0_6, .int .i64 a0_7] 50 (0, 0))) ∧ Aside0 (Below w.heap.size w wc))
                              case first => as_aux_lemma =>
                                have H := HC34.out
                                clear HC34
                                by_cases c37 : x7_25 = true
                                · subst c37
                                  have H1 : ((quillref12_Mate.f kj25 t148 x6_3).bind fun t157 => (if t157 ≥ 0 then ((quillref12_Pair.f kj25 t148 x6_3).bind fun t158 => (if t158 ≥ 0 then (quilllaw14_PairsMates.j4 kj25 x3_1 (rdOf ByteArray.empty l0_0 x3_1) t148 x6_3 true t153 t154 t155 t156 0 0 t157 t158 l0_0 a0_1 a0_2 a0_3 a0_4 a0_5 a0_6 a0_7) else (quilllaw14_PairsMates.j4 kj25 x3_1 (rdOf ByteArray.empty l0_0 x3_1) t148 x6_3 true t153 t154 t155 t156 0 6 t157 0 l0_0 a0_1 a0_2 a0_3 a0_4 a0_5 a0_6 a0_7))) else ((quillref12_Pair.f kj25 t148 x6_3).bind fun t159 => (if t159 ≥ 0 then (quilllaw14_PairsMates.j4 kj25 x3_1 (rdOf ByteArray.empty l0_0 x3_1) t148 x6_3 true t153 t154 t155 t156 6 0 0 t159 l0_0 a0_1 a0_2 a0_3 a0_4 a0_5 a0_6 a0_7) else (quilllaw14_PairsMates.j4 kj25 x3_1 (rdOf ByteArray.empty l0_0 x3_1) t148 x6_3 true t153 t154 t155 t156 6 6 0 0 l0_0 a0_1 a0_2 a0_3 a0_4 a0_5 a0_6 a0_7))))) = some r := by rw [if_pos rfl] at H; exact H
                                  clear H
                                  have H := H1
                                  clear H1
                                  replace H := Option.bind_eq_some_iff.mp H
                                  obtain ⟨t157, A380, H⟩ := H
                                  replace H : (if t157 ≥ 0 then ((quillref12_Pair.f kj25 t148 x6_3).bind fun t158 => (if t158 ≥ 0 then (quilllaw14_PairsMates.j4 kj25 x3_1 (rdOf ByteArray.empty l0_0 x3_1) t148 x6_3 true t153 t154 t155 t156 0 0 t157 t158 l0_0 a0_1 a0_2 a0_3 a0_4 a0_5 a0_6 a0_7) else (quilllaw14_PairsMates.j4 kj25 x3_1 (rdOf ByteArray.empty l0_0 x3_1) t148 x6_3 true t153 t154 t155 t156 0 6 t157 0 l0_0 a0_1 a0_2 a0_3 a0_4 a0_5 a0_6 a0_7))) else ((quillref12_Pair.f kj25 t148 x6_3).bind fun t159 => (if t159 ≥ 0 then (quilllaw14_PairsMates.j4 kj25 x3_1 (rdOf ByteArray.empty l0_0 x3_1) t148 x6_3 true t153 t154 t155 t156 6 0 0 t159 l0_0 a0_1 a0_2 a0_3 a0_4 a0_5 a0_6 a0_7) else (quilllaw14_PairsMates.j4 kj25 x3_1 (rdOf ByteArray.empty l0_0 x3_1) t148 x6_3 true t153 t154 t155 t156 6 6 0 0 l0_0 a0_1 a0_2 a0_3 a0_4 a0_5 a0_6 a0_7)))) = some r := H
                                  have A38 := Aside0.mk A380
                                  clear A380
                                  by_cases c39 : t157 ≥ 0
                                  · rw [if_pos c39] at H
                                    have c39b0 : decide (0 ≤ t157) = true := decide_eq_true c39
                                    clear c39
                                    (first | rw [c39b0] | (simp only [i64_w, i32_w]; rw [c39b0]) | skip)
                                    replace H := Option.bind_eq_some_iff.mp H
                                    obtain ⟨t158, A400, H⟩ := H
                                    replace H : (if t158 ≥ 0 then (quilllaw14_PairsMates.j4 kj25 x3_1 (rdOf ByteArray.empty l0_0 x3_1) t148 x6_3 true t153 t154 t155 t156 0 0 t157 t158 l0_0 a0_1 a0_2 a0_3 a0_4 a0_5 a0_6 a0_7) else (quilllaw14_PairsMates.j4 kj25 x3_1 (rdOf ByteArray.empty l0_0 x3_1) t148 x6_3 true t153 t154 t155 t156 0 6 t157 0 l0_0 a0_1 a0_2 a0_3 a0_4 a0_5 a0_6 a0_7)) = some r := H
                                    have A40 := Aside0.mk A400
                                    clear A400
                                    by_cases c41 : t158 ≥ 0
                                    · rw [if_pos c41] at H
                                      have c41b0 : decide (0 ≤ t158) = true := decide_eq_true c41
                                      clear c41
                                      have H' := Aside0.mk H
                                      clear H
                                      go_wp2_with (first | ((with_reducible refine gate_callee (f := 45) rfl ?_); refine goesL_ (some 83) rfl rfl Tryd.func45 (by as_aux_lemma => kernel_rfl) rfl #[.slice Ao24 t148.length co24, .int .i64 x6_3] rfl (by (try simp only [List.map_toArray, List.map_cons, List.map_nil]); first | done | rfl | (simp only [List.length_drop, List.length_take]; rfl)) ?_; (with_reducible refine (quillref12_Mate.calls kj25 _ _ t148 x6_3 t157 _ ?side1 ?side2 A38.out).mono ?_); (case side1 => repeat (first | exact (Kd.R_reads' HO_5.out).2.2 | (with_reducible refine Kd.C_alloc ?_ _) | (with_reducible refine Kd.C_drewN ?_ _) | (with_reducible refine Kd.C_drew ?_))); (case side2 => exact (Kd.R_reads' HO_5.out).2.1); rintro e w42 ⟨rfl, hb⟩; refine ⟨_, rfl, ?_⟩; have n0_ := Aside0.mk (Kd.R_below (by (with_reducible repeat (first | apply Kd.R_alloc | apply Kd.R_drewN | apply Kd.R_drew)); exact HO_5.out) hb); have n1_ := Aside0.mk (blk_below (g := gb144) (o := .cells #[.slice (some ad147) l0_0.length c0_0, .int .i64 a0_1, .int .i64 a0_2, .int .i64 a0_3, .int .i64 a0_4, .int .i64 a0_5, .int .i64 a0_6, .int .i64 a0_7] 50 (0, 0)) (by (with_reducible repeat (first | refine blk_drewN ?_ _ | refine blk_drew ?_ | refine blk_alloc ?_ _)); exact BK144.out) hb); have n2_ := Aside0.mk (below_step (by repeat (first | (with_reducible first | exact HB.out | apply below_alloc | apply pw_below_drewN | apply below_drew1 | refine below_set ?_ GE144.out) | exact HB.out)) hb); clear HO_5; clear BK144; clear HB; have HO_5 := n0_; have BK144 := n1_; have HB := n2_; clear n0_ n1_ n2_; (try clear hb); (try clear hb2); (try clear hk); (try clear hi)) | ((with_reducible refine gate_callee (f := 46) rfl ?_); refine goesL_ (some 89) rfl rfl Tryd.func46 (by as_aux_lemma => kernel_rfl) rfl #[.slice Ao24 t148.length co24, .int .i64 x6_3] rfl (by (try simp only [List.map_toArray, List.map_cons, List.map_nil]); first | done | rfl | (simp only [List.length_drop, List.length_take]; rfl)) ?_; (with_reducible refine (quillref12_Pair.calls kj25 _ _ t148 x6_3 t158 _ ?side1 ?side2 A40.out).mono ?_); (case side1 => repeat (first | exact (Kd.R_reads' HO_5.out).2.2 | (with_reducible refine Kd.C_alloc ?_ _) | (with_reducible refine Kd.C_drewN ?_ _) | (with_reducible refine Kd.C_drew ?_))); (case side2 => exact (Kd.R_reads' HO_5.out).2.1); rintro e w43 ⟨rfl, hb⟩; refine ⟨_, rfl, ?_⟩; have n0_ := Aside0.mk (Kd.R_below (by (with_reducible repeat (first | apply Kd.R_alloc | apply Kd.R_drewN | apply Kd.R_drew)); exact HO_5.out) hb); have n1_ := Aside0.mk (blk_below (g := gb144) (o := .cells #[.slice (some ad147) l0_0.length c0_0, .int .i64 a0_1, .int .i64 a0_2, .int .i64 a0_3, .int .i64 a0_4, .int .i64 a0_5, .int .i64 a0_6, .int .i64 a0_7] 50 (0, 0)) (by (with_reducible repeat (first | refine blk_drewN ?_ _ | refine blk_drew ?_ | refine blk_alloc ?_ _)); exact BK144.out) hb); have n2_ := Aside0.mk (below_step (by repeat (first | (with_reducible first | exact HB.out | apply below_alloc | apply pw_below_drewN | apply below_drew1 | refine below_set ?_ GE144.out) | exact HB.out)) hb); clear HO_5; clear BK144; clear HB; have HO_5 := n0_; have BK144 := n1_; have HB := n2_; clear n0_ n1_ n2_; (try clear hb); (try clear hb2); (try clear hk); (try clear hi)))
                                      go_meet
                                      case rel => exact ⟨_, (0), (0), (t157), (t158), (by first | rfl | (simp; done) | (simp [*]; done)), (by first | rfl | (simp; done) | (simp [*]; done)), (by first | rfl | (simp; done) | (simp [*]; done)), (by first | rfl | (simp; done) | (simp [*]; done)), H', ⟨by have := HK1.out; have := HJ9.out; have := HK3.out; have := HJ25.out; first | omega | exact Nat.le_refl _⟩, ⟨by (with_reducible repeat (first | apply Kd.R_alloc | apply Kd.R_drewN | apply Kd.R_drew)); exact HO_5.out⟩, ⟨by (with_reducible repeat (first | refine blk_drewN ?_ _ | refine blk_drew ?_ | refine blk_alloc ?_ _)); exact BK144.out⟩, ⟨by repeat (first | (with_reducible first | exact HB.out | apply below_alloc | apply pw_below_drewN | apply below_drew1 | refine below_set ?_ GE144.out) | exact HB.out)⟩⟩
                                    · rw [if_neg c41] at H
                                      have c41b0 : decide (0 ≤ t158) = false := decide_eq_false c41
                                      clear c41
                                      have H' := Aside0.mk H
                                      clear H
                                      go_wp2_with (first | ((with_reducible refine gate_callee (f := 45) rfl ?_); refine goesL_ (some 83) rfl rfl Tryd.func45 (by as_aux_lemma => kernel_rfl) rfl #[.slice Ao24 t148.length co24, .int .i64 x6_3] rfl (by (try simp only [List.map_toArray, List.map_cons, List.map_nil]); first | done | rfl | (simp only [List.length_drop, List.length_take]; rfl)) ?_; (with_reducible refine (quillref12_Mate.calls kj25 _ _ t148 x6_3 t157 _ ?side1 ?side2 A38.out).mono ?_); (case side1 => repeat (first | exact (Kd.R_reads' HO_5.out).2.2 | (with_reducible refine Kd.C_alloc ?_ _) | (with_reducible refine Kd.C_drewN ?_ _) | (with_reducible refine Kd.C_drew ?_))); (case side2 => exact (Kd.R_reads' HO_5.out).2.1); rintro e w44 ⟨rfl, hb⟩; refine ⟨_, rfl, ?_⟩; have n0_ := Aside0.mk (Kd.R_below (by (with_reducible repeat (first | apply Kd.R_alloc | apply Kd.R_drewN | apply Kd.R_drew)); exact HO_5.out) hb); have n1_ := Aside0.mk (blk_below (g := gb144) (o := .cells #[.slice (some ad147) l0_0.length c0_0, .int .i64 a0_1, .int .i64 a0_2, .int .i64 a0_3, .int .i64 a0_4, .int .i64 a0_5, .int .i64 a0_6, .int .i64 a0_7] 50 (0, 0)) (by (with_reducible repeat (first | refine blk_drewN ?_ _ | refine blk_drew ?_ | refine blk_alloc ?_ _)); exact BK144.out) hb); have n2_ := Aside0.mk (below_step (by repeat (first | (with_reducible first | exact HB.out | apply below_alloc | apply pw_below_drewN | apply below_drew1 | refine below_set ?_ GE144.out) | exact HB.out)) hb); clear HO_5; clear BK144; clear HB; have HO_5 := n0_; have BK144 := n1_; have HB := n2_; clear n0_ n1_ n2_; (try clear hb); (try clear hb2); (try clear hk); (try clear hi)) | ((with_reducible refine gate_callee (f := 46) rfl ?_); refine goesL_ (some 89) rfl rfl Tryd.func46 (by as_aux_lemma => kernel_rfl) rfl #[.slice Ao24 t148.length co24, .int .i64 x6_3] rfl (by (try simp only [List.map_toArray, List.map_cons, List.map_nil]); first | done | rfl | (simp only [List.length_drop, List.length_take]; rfl)) ?_; (with_reducible refine (quillref12_Pair.calls kj25 _ _ t148 x6_3 t158 _ ?side1 ?side2 A40.out).mono ?_); (case side1 => repeat (first | exact (Kd.R_reads' HO_5.out).2.2 | (with_reducible refine Kd.C_alloc ?_ _) | (with_reducible refine Kd.C_drewN ?_ _) | (with_reducible refine Kd.C_drew ?_))); (case side2 => exact (Kd.R_reads' HO_5.out).2.1); rintro e w45 ⟨rfl, hb⟩; refine ⟨_, rfl, ?_⟩; have n0_ := Aside0.mk (Kd.R_below (by (with_reducible repeat (first | apply Kd.R_alloc | apply Kd.R_drewN | apply Kd.R_drew)); exact HO_5.out) hb); have n1_ := Aside0.mk (blk_below (g := gb144) (o := .cells #[.slice (some ad147) l0_0.length c0_0, .int .i64 a0_1, .int .i64 a0_2, .int .i64 a0_3, .int .i64 a0_4, .int .i64 a0_5, .int .i64 a0_6, .int .i64 a0_7] 50 (0, 0)) (by (with_reducible repeat (first | refine blk_drewN ?_ _ | refine blk_drew ?_ | refine blk_alloc ?_ _)); exact BK144.out) hb); have n2_ := Aside0.mk (below_step (by repeat (first | (with_reducible first | exact HB.out | apply below_alloc | apply pw_below_drewN | apply below_drew1 | refine below_set ?_ GE144.out) | exact HB.out)) hb); clear HO_5; clear BK144; clear HB; have HO_5 := n0_; have BK144 := n1_; have HB := n2_; clear n0_ n1_ n2_; (try clear hb); (try clear hb2); (try clear hk); (try clear hi)))
                                      go_meet
                                      case rel => exact ⟨_, (0), (6), (t157), (0), (by first | rfl | (simp; done) | (simp [*]; done)), (by first | rfl | (simp; done) | (simp [*]; done)), (by first | rfl | (simp; done) | (simp [*]; done)), (by first | rfl | (simp; done) | (simp [*]; done)), H', ⟨by have := HK1.out; have := HJ9.out; have := HK3.out; have := HJ25.out; first | omega | exact Nat.le_refl _⟩, ⟨by (with_reducible repeat (first | apply Kd.R_alloc | apply Kd.R_drewN | apply Kd.R_drew)); exact HO_5.out⟩, ⟨by (with_reducible repeat (first | refine blk_drewN ?_ _ | refine blk_drew ?_ | refine blk_alloc ?_ _)); exact BK144.out⟩, ⟨by repeat (first | (with_reducible first | exact HB.out | apply below_alloc | apply pw_below_drewN | apply below_drew1 | refine below_set ?_ GE144.out) | exact HB.out)⟩⟩
                                  · rw [if_neg c39] at H
                                    have c39b0 : decide (0 ≤ t157) = false := decide_eq_false c39
                                    clear c39
                                    (first | rw [c39b0] | (simp only [i64_w, i32_w]; rw [c39b0]) | skip)
                                    replace H := Option.bind_eq_some_iff.mp H
                                    obtain ⟨t159, A460, H⟩ := H
                                    replace H : (if t159 ≥ 0 then (quilllaw14_PairsMates.j4 kj25 x3_1 (rdOf ByteArray.empty l0_0 x3_1) t148 x6_3 true t153 t154 t155 t156 6 0 0 t159 l0_0 a0_1 a0_2 a0_3 a0_4 a0_5 a0_6 a0_7) else (quilllaw14_PairsMates.j4 kj25 x3_1 (rdOf ByteArray.empty l0_0 x3_1) t148 x6_3 true t153 t154 t155 t156 6 6 0 0 l0_0 a0_1 a0_2 a0_3 a0_4 a0_5 a0_6 a0_7)) = some r := H
                                    have A46 := Aside0.mk A460
                                    clear A460
                                    by_cases c47 : t159 ≥ 0
                                    · rw [if_pos c47] at H
                                      have c47b0 : decide (0 ≤ t159) = true := decide_eq_true c47
                                      clear c47
                                      have H' := Aside0.mk H
                                      clear H
                                      go_wp2_with (first | ((with_reducible refine gate_callee (f := 45) rfl ?_); refine goesL_ (some 83) rfl rfl Tryd.func45 (by as_aux_lemma => kernel_rfl) rfl #[.slice Ao24 t148.length co24, .int .i64 x6_3] rfl (by (try simp only [List.map_toArray, List.map_cons, List.map_nil]); first | done | rfl | (simp only [List.length_drop, List.length_take]; rfl)) ?_; (with_reducible refine (quillref12_Mate.calls kj25 _ _ t148 x6_3 t157 _ ?side1 ?side2 A38.out).mono ?_); (case side1 => repeat (first | exact (Kd.R_reads' HO_5.out).2.2 | (with_reducible refine Kd.C_alloc ?_ _) | (with_reducible refine Kd.C_drewN ?_ _) | (with_reducible refine Kd.C_drew ?_))); (case side2 => exact (Kd.R_reads' HO_5.out).2.1); rintro e w48 ⟨rfl, hb⟩; refine ⟨_, rfl, ?_⟩; have n0_ := Aside0.mk (Kd.R_below (by (with_reducible repeat (first | apply Kd.R_alloc | apply Kd.R_drewN | apply Kd.R_drew)); exact HO_5.out) hb); have n1_ := Aside0.mk (blk_below (g := gb144) (o := .cells #[.slice (some ad147) l0_0.length c0_0, .int .i64 a0_1, .int .i64 a0_2, .int .i64 a0_3, .int .i64 a0_4, .int .i64 a0_5, .int .i64 a0_6, .int .i64 a0_7] 50 (0, 0)) (by (with_reducible repeat (first | refine blk_drewN ?_ _ | refine blk_drew ?_ | refine blk_alloc ?_ _)); exact BK144.out) hb); have n2_ := Aside0.mk (below_step (by repeat (first | (with_reducible first | exact HB.out | apply below_alloc | apply pw_below_drewN | apply below_drew1 | refine below_set ?_ GE144.out) | exact HB.out)) hb); clear HO_5; clear BK144; clear HB; have HO_5 := n0_; have BK144 := n1_; have HB := n2_; clear n0_ n1_ n2_; (try clear hb); (try clear hb2); (try clear hk); (try clear hi)) | ((with_reducible refine gate_callee (f := 46) rfl ?_); refine goesL_ (some 89) rfl rfl Tryd.func46 (by as_aux_lemma => kernel_rfl) rfl #[.slice Ao24 t148.length co24, .int .i64 x6_3] rfl (by (try simp only [List.map_toArray, List.map_cons, List.map_nil]); first | done | rfl | (simp only [List.length_drop, List.length_take]; rfl)) ?_; (with_reducible refine (quillref12_Pair.calls kj25 _ _ t148 x6_3 t159 _ ?side1 ?side2 A46.out).mono ?_); (case side1 => repeat (first | exact (Kd.R_reads' HO_5.out).2.2 | (with_reducible refine Kd.C_alloc ?_ _) | (with_reducible refine Kd.C_drewN ?_ _) | (with_reducible refine Kd.C_drew ?_))); (case side2 => exact (Kd.R_reads' HO_5.out).2.1); rintro e w49 ⟨rfl, hb⟩; refine ⟨_, rfl, ?_⟩; have n0_ := Aside0.mk (Kd.R_below (by (with_reducible repeat (first | apply Kd.R_alloc | apply Kd.R_drewN | apply Kd.R_drew)); exact HO_5.out) hb); have n1_ := Aside0.mk (blk_below (g := gb144) (o := .cells #[.slice (some ad147) l0_0.length c0_0, .int .i64 a0_1, .int .i64 a0_2, .int .i64 a0_3, .int .i64 a0_4, .int .i64 a0_5, .int .i64 a0_6, .int .i64 a0_7] 50 (0, 0)) (by (with_reducible repeat (first | refine blk_drewN ?_ _ | refine blk_drew ?_ | refine blk_alloc ?_ _)); exact BK144.out) hb); have n2_ := Aside0.mk (below_step (by repeat (first | (with_reducible first | exact HB.out | apply below_alloc | apply pw_below_drewN | apply below_drew1 | refine below_set ?_ GE144.out) | exact HB.out)) hb); clear HO_5; clear BK144; clear HB; have HO_5 := n0_; have BK144 := n1_; have HB := n2_; clear n0_ n1_ n2_; (try clear hb); (try clear hb2); (try clear hk); (try clear hi)))
                                      go_meet
                                      case rel => exact ⟨_, (6), (0), (0), (t159), (by first | rfl | (simp; done) | (simp [*]; done)), (by first | rfl | (simp; done) | (simp [*]; done)), (by first | rfl | (simp; done) | (simp [*]; done)), (by first | rfl | (simp; done) | (simp [*]; done)), H', ⟨by have := HK1.out; have := HJ9.out; have := HK3.out; have := HJ25.out; first | omega | exact Nat.le_refl _⟩, ⟨by (with_reducible repeat (first | apply Kd.R_alloc | apply Kd.R_drewN | apply Kd.R_drew)); exact HO_5.out⟩, ⟨by (with_reducible repeat (first | refine blk_drewN ?_ _ | refine blk_drew ?_ | refine blk_alloc ?_ _)); exact BK144.out⟩, ⟨by repeat (first | (with_reducible first | exact HB.out | apply below_alloc | apply pw_below_drewN | apply below_drew1 | refine below_set ?_ GE144.out) | exact HB.out)⟩⟩
                                    · rw [if_neg c47] at H
                                      have c47b0 : decide (0 ≤ t159) = false := decide_eq_false c47
                                      clear c47
                                      have H' := Aside0.mk H
                                      clear H
                                      go_wp2_with (first | ((with_reducible refine gate_callee (f := 45) rfl ?_); refine goesL_ (some 83) rfl rfl Tryd.func45 (by as_aux_lemma => kernel_rfl) rfl #[.slice Ao24 t148.length co24, .int .i64 x6_3] rfl (by (try simp only [List.map_toArray, List.map_cons, List.map_nil]); first | done | rfl | (simp only [List.length_drop, List.length_take]; rfl)) ?_; (with_reducible refine (quillref12_Mate.calls kj25 _ _ t148 x6_3 t157 _ ?side1 ?side2 A38.out).mono ?_); (case side1 => repeat (first | exact (Kd.R_reads' HO_5.out).2.2 | (with_reducible refine Kd.C_alloc ?_ _) | (with_reducible refine Kd.C_drewN ?_ _) | (with_reducible refine Kd.C_drew ?_))); (case side2 => exact (Kd.R_reads' HO_5.out).2.1); rintro e w50 ⟨rfl, hb⟩; refine ⟨_, rfl, ?_⟩; have n0_ := Aside0.mk (Kd.R_below (by (with_reducible repeat (first | apply Kd.R_alloc | apply Kd.R_drewN | apply Kd.R_drew)); exact HO_5.out) hb); have n1_ := Aside0.mk (blk_below (g := gb144) (o := .cells #[.slice (some ad147) l0_0.length c0_0, .int .i64 a0_1, .int .i64 a0_2, .int .i64 a0_3, .int .i64 a0_4, .int .i64 a0_5, .int .i64 a0_6, .int .i64 a0_7] 50 (0, 0)) (by (with_reducible repeat (first | refine blk_drewN ?_ _ | refine blk_drew ?_ | refine blk_alloc ?_ _)); exact BK144.out) hb); have n2_ := Aside0.mk (below_step (by repeat (first | (with_reducible first | exact HB.out | apply below_alloc | apply pw_below_drewN | apply below_drew1 | refine below_set ?_ GE144.out) | exact HB.out)) hb); clear HO_5; clear BK144; clear HB; have HO_5 := n0_; have BK144 := n1_; have HB := n2_; clear n0_ n1_ n2_; (try clear hb); (try clear hb2); (try clear hk); (try clear hi)) | ((with_reducible refine gate_callee (f := 46) rfl ?_); refine goesL_ (some 89) rfl rfl Tryd.func46 (by as_aux_lemma => kernel_rfl) rfl #[.slice Ao24 t148.length co24, .int .i64 x6_3] rfl (by (try simp only [List.map_toArray, List.map_cons, List.map_nil]); first | done | rfl | (simp only [List.length_drop, List.length_take]; rfl)) ?_; (with_reducible refine (quillref12_Pair.calls kj25 _ _ t148 x6_3 t159 _ ?side1 ?side2 A46.out).mono ?_); (case side1 => repeat (first | exact (Kd.R_reads' HO_5.out).2.2 | (with_reducible refine Kd.C_alloc ?_ _) | (with_reducible refine Kd.C_drewN ?_ _) | (with_reducible refine Kd.C_drew ?_))); (case side2 => exact (Kd.R_reads' HO_5.out).2.1); rintro e w51 ⟨rfl, hb⟩; refine ⟨_, rfl, ?_⟩; have n0_ := Aside0.mk (Kd.R_below (by (with_reducible repeat (first | apply Kd.R_alloc | apply Kd.R_drewN | apply Kd.R_drew)); exact HO_5.out) hb); have n1_ := Aside0.mk (blk_below (g := gb144) (o := .cells #[.slice (some ad147) l0_0.length c0_0, .int .i64 a0_1, .int .i64 a0_2, .int .i64 a0_3, .int .i64 a0_4, .int .i64 a0_5, .int .i64 a0_6, .int .i64 a0_7] 50 (0, 0)) (by (with_reducible repeat (first | refine blk_drewN ?_ _ | refine blk_drew ?_ | refine blk_alloc ?_ _)); exact BK144.out) hb); have n2_ := Aside0.mk (below_step (by repeat (first | (with_reducible first | exact HB.out | apply below_alloc | apply pw_below_drewN | apply below_drew1 | refine below_set ?_ GE144.out) | exact HB.out)) hb); clear HO_5; clear BK144; clear HB; have HO_5 := n0_; have BK144 := n1_; have HB := n2_; clear n0_ n1_ n2_; (try clear hb); (try clear hb2); (try clear hk); (try clear hi)))
                                      go_meet
                                      case rel => exact ⟨_, (6), (6), (0), (0), (by first | rfl | (simp; done) | (simp [*]; done)), (by first | rfl | (simp; done) | (simp [*]; done)), (by first | rfl | (simp; done) | (simp [*]; done)), (by first | rfl | (simp; done) | (simp [*]; done)), H', ⟨by have := HK1.out; have := HJ9.out; have := HK3.out; have := HJ25.out; first | omega | exact Nat.le_refl _⟩, ⟨by (with_reducible repeat (first | apply Kd.R_alloc | apply Kd.R_drewN | apply Kd.R_drew)); exact HO_5.out⟩, ⟨by (with_reducible repeat (first | refine blk_drewN ?_ _ | refine blk_drew ?_ | refine blk_alloc ?_ _)); exact BK144.out⟩, ⟨by repeat (first | (with_reducible first | exact HB.out | apply below_alloc | apply pw_below_drewN | apply below_drew1 | refine below_set ?_ GE144.out) | exact HB.out)⟩⟩
                                · replace c37 := Bool.eq_false_iff.mpr c37
                                  subst c37
                                  have H1 : (quilllaw14_PairsMates.j4 kj25 x3_1 (rdOf ByteArray.empty l0_0 x3_1) t148 x6_3 false t153 t154 t155 t156 1 1 0 0 l0_0 a0_1 a0_2 a0_3 a0_4 a0_5 a0_6 a0_7) = some r := by rw [if_neg (show ¬ (false = true) by decide)] at H; exact H
                                  clear H
                                  have H := H1
                                  clear H1
                                  have H' := Aside0.mk H
                                  clear H
                                  go_wp2
                                  go_meet
                                  case rel => exact ⟨_, (1), (1), (0), (0), (by first | rfl | (simp; done) | (simp [*]; done)), (by first | rfl | (simp; done) | (simp [*]; done)), (by first | rfl | (simp; done) | (simp [*]; done)), (by first | rfl | (simp; done) | (simp [*]; done)), H', ⟨by have := HK1.out; have := HJ9.out; have := HK3.out; have := HJ25.out; first | omega | exact Nat.le_refl _⟩, ⟨by (with_reducible repeat (first | apply Kd.R_alloc | apply Kd.R_drewN | apply Kd.R_drew)); exact HO_5.out⟩, ⟨by (with_reducible repeat (first | refine blk_drewN ?_ _ | refine blk_drew ?_ | refine blk_alloc ?_ _)); exact BK144.out⟩, ⟨by repeat (first | (with_reducible first | exact HB.out | apply below_alloc | apply pw_below_drewN | apply below_drew1 | refine below_set ?_ GE144.out) | exact HB.out)⟩⟩
                              case rest =>
                                clear HC34
                                try clear c1
                                try clear p1
                                try clear q1
                                try clear hx1
                                try clear c2
                                try clear p2
                                try clear c3
                                try clear c4
                                try clear p6
                                try clear c10
                                try clear c11
                                try clear c11b0
                                try clear c14
                                try clear p14
                                try clear q14
                                try clear hx14
                                try clear c15
                                try clear c15b0
                                try clear c16
                                try clear c16b0
                                try clear c18
                                try clear c18b0
                                try clear c18b1
                                try clear c25
                                try clear c25b0
                                try clear c28
                                try clear c37
                                try clear c39
                                try clear c39b0
                                try clear c40
                                try clear c41
                                try clear c41b0
                                try clear c44
                                try clear c45
                                try clear c46
                                try clear c47
                                try clear c47b0
                                try clear hcz12_0
                                try clear hcz12_1
                                try clear hcz12_2
                                try clear hcz12_3
                                try clear hcz12_4
                                try clear hcz12_5
                                try clear hcz12_6
                                try clear hcz12_7
                                try clear hcz13_0
                                try clear hcz13_1
                                try clear hcz13_2
                                try clear hcz13_3
                                try clear hcz13_4
                                try clear hcz13_5
                                try clear hcz13_6
                                try clear hcz13_7
                                try clear hcz19_0
                                try clear hcz19_1
                                try clear hcz19_2
                                try clear hcz19_3
                                try clear hcz19_4
                                try clear hcz19_5
                                try clear hcz19_6
                                try clear hcz19_7
                                try clear hcz22_0
                                try clear hcz22_1
                                try clear hcz22_2
                                try clear hcz22_3
                                try clear hcz22_4
                                try clear hcz22_5
                                try clear hcz22_6
                                try clear hcz22_7
                                try clear hcz5_0
                                try clear hcz5_1
                                try clear hcz5_2
                                try clear hcz5_3
                                try clear hcz5_4
                                try clear hcz5_5
                                try clear hcz5_6
                                try clear hcz5_7
                                try clear hcz8_0
                                try clear hcz8_1
                                try clear hcz8_2
                                try clear hcz8_3
                                try clear hcz8_4
                                try clear hcz8_5
                                try clear hcz8_6
                                try clear hcz8_7
                                try clear hfz12_0
                                try clear hfz12_1
                                try clear hfz12_2
                                try clear hfz12_3
                                try clear hfz12_4
                                try clear hfz12_5
                                try clear hfz12_6
                                try clear hfz12_7
                                try clear hfz13_0
                                try clear hfz13_1
                                try clear hfz13_2
                                try clear hfz13_3
                                try clear hfz13_4
                                try clear hfz13_5
                                try clear hfz13_6
                                try clear hfz13_7
                                try clear hfz19_0
                                try clear hfz19_1
                                try clear hfz19_2
                                try clear hfz19_3
                                try clear hfz19_4
                                try clear hfz19_5
                                try clear hfz19_6
                                try clear hfz19_7
                                try clear hfz22_0
                                try clear hfz22_1
                                try clear hfz22_2
                                try clear hfz22_3
                                try clear hfz22_4
                                try clear hfz22_5
                                try clear hfz22_6
                                try clear hfz22_7
                                try clear hfz5_0
                                try clear hfz5_1
                                try clear hfz5_2
                                try clear hfz5_3
                                try clear hfz5_4
                                try clear hfz5_5
                                try clear hfz5_6
                                try clear hfz5_7
                                try clear hfz8_0
                                try clear hfz8_1
                                try clear hfz8_2
                                try clear hfz8_3
                                try clear hfz8_4
                                try clear hfz8_5
                                try clear hfz8_6
                                try clear hfz8_7
                                try clear hx147_0
                                try clear p1
                                try clear p14
                                try clear p147
                                try clear p2
                                try clear p6
                                try clear q1
                                try clear q14
                                try clear q147
                                obtain ⟨kq, x12_33, x13_33, x14_33, x15_33, rfl, rfl, rfl, rfl, HA, HJ33, HO_5, BK144, HB⟩ := hcut
                                cases kq with
                                | zero => exact absurd HA.out (by simp [quilllaw14_PairsMates.j4])
                                | succ kj33 =>
                                  have H := HA.out
                                  clear HA
                                  simp only [quilllaw14_PairsMates.j4] at H
                                  have HC52 := Aside0.mk H
                                  clear H
                                  go_upto_region 24 with (fail)
                                  go_cut [112] (fun v112 wc => ∃ (kq : Nat) (x112_51 : Bool), v112 = .bool x112_51 ∧ Aside0 (quilllaw14_PairsMates.j5 kq x3_1 (rdOf ByteArray.empty l0_0 x3_1) t148 x6_3 x7_25 x112_51 l0_0 a0_1 a0_2 a0_3 a0_4 a0_5 a0_6 a0_7 = some r) ∧ Aside0 (kq ≤ kj33) ∧ Aside0 (Kd.R (Kd.int .i32) 21 wc w.heap.size (fun _ => True) (.slice Ao24 t148.length co24) t148) ∧ Aside0 (wc.heap[gb144]? = some (.cells #[(.slice (some ad147) l0_0.length c0_0), .int .i64 a0_1, .int .i64 a0_2, .int .i64 a0_3, .int .i64 a0_4, .int .i64 a0_5, .int .i64 a0_6, .int .i64 a0_7] 50 (0, 0))) ∧ Aside0 (Below w.heap.size w wc))
                                  case first => as_aux_lemma =>
                                    have H := HC52.out
                                    clear HC52
                                    replace H := Option.bind_eq_some_iff.mp H
                                    obtain ⟨t160, A530, H⟩ := H
                                    replace H : (if t160 = x12_33 then ((quilllaw14_num.f t156).bind fun t161 => (if t161 = x13_33 then (if t153 = x14_33 then (quilllaw14_PairsMates.j5 kj33 x3_1 (rdOf ByteArray.empty l0_0 x3_1) t148 x6_3 x7_25 (t155 != x15_33) l0_0 a0_1 a0_2 a0_3 a0_4 a0_5 a0_6 a0_7) else (quilllaw14_PairsMates.j5 kj33 x3_1 (rdOf ByteArray.empty l0_0 x3_1) t148 x6_3 x7_25 true l0_0 a0_1 a0_2 a0_3 a0_4 a0_5 a0_6 a0_7)) else (quilllaw14_PairsMates.j5 kj33 x3_1 (rdOf ByteArray.empty l0_0 x3_1) t148 x6_3 x7_25 true l0_0 a0_1 a0_2 a0_3 a0_4 a0_5 a0_6 a0_7))) else (quilllaw14_PairsMates.j5 kj33 x3_1 (rdOf ByteArray.empty l0_0 x3_1) t148 x6_3 x7_25 true l0_0 a0_1 a0_2 a0_3 a0_4 a0_5 a0_6 a0_7)) = some r := H
                                    have A53 := Aside0.mk A530
                                    clear A530
                                    by_cases c54 : t160 = x12_33
                                    · rw [if_pos c54] at H
                                      have c54s := Aside0.mk c54
                                      have c54b0 : (t160 == x12_33) = true := beq_iff_eq.mpr c54
                                      have c54b1 : (t160 != x12_33) = false := bne_eq_false_iff_eq.mpr c54
                                      clear c54
                                      (first | rw [c54b0] | (simp only [i64_w, i32_w]; rw [c54b0]) | skip)
                                      replace H := Option.bind_eq_some_iff.mp H
                                      obtain ⟨t161, A550, H⟩ := H
                                      replace H : (if t161 = x13_33 then (if t153 = x14_33 then (quilllaw14_PairsMates.j5 kj33 x3_1 (rdOf ByteArray.empty l0_0 x3_1) t148 x6_3 x7_25 (t155 != x15_33) l0_0 a0_1 a0_2 a0_3 a0_4 a0_5 a0_6 a0_7) else (quilllaw14_PairsMates.j5 kj33 x3_1 (rdOf ByteArray.empty l0_0 x3_1) t148 x6_3 x7_25 true l0_0 a0_1 a0_2 a0_3 a0_4 a0_5 a0_6 a0_7)) else (quilllaw14_PairsMates.j5 kj33 x3_1 (rdOf ByteArray.empty l0_0 x3_1) t148 x6_3 x7_25 true l0_0 a0_1 a0_2 a0_3 a0_4 a0_5 a0_6 a0_7)) = some r := H
                                      have A55 := Aside0.mk A550
                                      clear A550
                                      by_cases c56 : t161 = x13_33
                                      · rw [if_pos c56] at H
                                        have c56s := Aside0.mk c56
                                        have c56b0 : (t161 == x13_33) = true := beq_iff_eq.mpr c56
                                        have c56b1 : (t161 != x13_33) = false := bne_eq_false_iff_eq.mpr c56
                                        clear c56
                                        by_cases c57 : t153 = x14_33
                                        · rw [if_pos c57] at H
                                          have c57s := Aside0.mk c57
                                          have c57b0 : (t153 == x14_33) = true := beq_iff_eq.mpr c57
                                          have c57b1 : (t153 != x14_33) = false := bne_eq_false_iff_eq.mpr c57
                                          clear c57
                                          have H' := Aside0.mk H
                                          clear H
                                          go_wp2_with (first | ((with_reducible refine gate_callee (f := 41) rfl ?_); refine goesL_ (some 94) rfl rfl Tryd.func41 (by as_aux_lemma => kernel_rfl) rfl #[.int .i64 t154] rfl (by (try simp only [List.map_toArray, List.map_cons, List.map_nil]); first | done | rfl | (simp only [List.length_drop, List.length_take]; rfl)) ?_; (with_reducible refine (quilllaw14_num.calls t154 t160 _ A53.out).mono ?_); rintro e w' ⟨rfl, ⟨nd, rfl⟩⟩; refine ⟨_, rfl, ?_⟩) | (go_at_call 41; (with_reducible refine (quilllaw14_num.calls t156 t161 _ A55.out).mono ?_); rintro e w' ⟨rfl, ⟨nd, rfl⟩⟩))
                                          (try cases c54s.out)
                                          (try cases c56s.out)
                                          (try cases c57s.out)
                                          go_meet
                                          case rel => exact ⟨_, ((t155 != x15_33)), (by first | rfl | (simp; done) | (simp [*]; done)), H', ⟨by have := HK1.out; have := HJ9.out; have := HK3.out; have := HJ25.out; have := HJ33.out; first | omega | exact Nat.le_refl _⟩, ⟨by (with_reducible repeat (first | apply Kd.R_alloc | apply Kd.R_drewN | apply Kd.R_drew)); exact HO_5.out⟩, ⟨by (with_reducible repeat (first | refine blk_drewN ?_ _ | refine blk_drew ?_ | refine blk_alloc ?_ _)); exact BK144.out⟩, ⟨by repeat (first | (with_reducible first | exact HB.out | apply below_alloc | apply pw_below_drewN | apply below_drew1 | refine below_set ?_ GE144.out) | exact HB.out)⟩⟩
                                        · rw [if_neg c57] at H
                                          have c57b0 : (t153 == x14_33) = false := beq_eq_false_iff_ne.mpr c57
                                          have c57b1 : (t153 != x14_33) = true := bne_iff_ne.mpr c57
                                          have H' := Aside0.mk H
                                          clear H
                                          go_wp2_with (first | ((with_reducible refine gate_callee (f := 41) rfl ?_); refine goesL_ (some 94) rfl rfl Tryd.func41 (by as_aux_lemma => kernel_rfl) rfl #[.int .i64 t154] rfl (by (try simp only [List.map_toArray, List.map_cons, List.map_nil]); first | done | rfl | (simp only [List.length_drop, List.length_take]; rfl)) ?_; (with_reducible refine (quilllaw14_num.calls t154 t160 _ A53.out).mono ?_); rintro e w' ⟨rfl, ⟨nd, rfl⟩⟩; refine ⟨_, rfl, ?_⟩) | (go_at_call 41; (with_reducible refine (quilllaw14_num.calls t156 t161 _ A55.out).mono ?_); rintro e w' ⟨rfl, ⟨nd, rfl⟩⟩))
                                          (try cases c54s.out)
                                          (try cases c56s.out)
                                          go_meet
                                          case rel => exact ⟨_, (true), (by first | rfl | (simp; done) | (simp [*]; done)), H', ⟨by have := HK1.out; have := HJ9.out; have := HK3.out; have := HJ25.out; have := HJ33.out; first | omega | exact Nat.le_refl _⟩, ⟨by (with_reducible repeat (first | apply Kd.R_alloc | apply Kd.R_drewN | apply Kd.R_drew)); exact HO_5.out⟩, ⟨by (with_reducible repeat (first | refine blk_drewN ?_ _ | refine blk_drew ?_ | refine blk_alloc ?_ _)); exact BK144.out⟩, ⟨by repeat (first | (with_reducible first | exact HB.out | apply below_alloc | apply pw_below_drewN | apply below_drew1 | refine below_set ?_ GE144.out) | exact HB.out)⟩⟩
                                      · rw [if_neg c56] at H
                                        have c56b0 : (t161 == x13_33) = false := beq_eq_false_iff_ne.mpr c56
                                        have c56b1 : (t161 != x13_33) = true := bne_iff_ne.mpr c56
                                        have H' := Aside0.mk H
                                        clear H
                                        go_wp2_with (first | ((with_reducible refine gate_callee (f := 41) rfl ?_); refine goesL_ (some 94) rfl rfl Tryd.func41 (by as_aux_lemma => kernel_rfl) rfl #[.int .i64 t154] rfl (by (try simp only [List.map_toArray, List.map_cons, List.map_nil]); first | done | rfl | (simp only [List.length_drop, List.length_take]; rfl)) ?_; (with_reducible refine (quilllaw14_num.calls t154 t160 _ A53.out).mono ?_); rintro e w' ⟨rfl, ⟨nd, rfl⟩⟩; refine ⟨_, rfl, ?_⟩) | (go_at_call 41; (with_reducible refine (quilllaw14_num.calls t156 t161 _ A55.out).mono ?_); rintro e w' ⟨rfl, ⟨nd, rfl⟩⟩))
                                        (try cases c54s.out)
                                        go_meet
                                        case rel => exact ⟨_, (true), (by first | rfl | (simp; done) | (simp [*]; done)), H', ⟨by have := HK1.out; have := HJ9.out; have := HK3.out; have := HJ25.out; have := HJ33.out; first | omega | exact Nat.le_refl _⟩, ⟨by (with_reducible repeat (first | apply Kd.R_alloc | apply Kd.R_drewN | apply Kd.R_drew)); exact HO_5.out⟩, ⟨by (with_reducible repeat (first | refine blk_drewN ?_ _ | refine blk_drew ?_ | refine blk_alloc ?_ _)); exact BK144.out⟩, ⟨by repeat (first | (with_reducible first | exact HB.out | apply below_alloc | apply pw_below_drewN | apply below_drew1 | refine below_set ?_ GE144.out) | exact HB.out)⟩⟩
                                    · rw [if_neg c54] at H
                                      have c54b0 : (t160 == x12_33) = false := beq_eq_false_iff_ne.mpr c54
                                      have c54b1 : (t160 != x12_33) = true := bne_iff_ne.mpr c54
                                      (first | rw [c54b0] | (simp only [i64_w, i32_w]; rw [c54b0]) | skip)
                                      have H' := Aside0.mk H
                                      clear H
                                      go_wp2_with (first | ((with_reducible refine gate_callee (f := 41) rfl ?_); refine goesL_ (some 94) rfl rfl Tryd.func41 (by as_aux_lemma => kernel_rfl) rfl #[.int .i64 t154] rfl (by (try simp only [List.map_toArray, List.map_cons, List.map_nil]); first | done | rfl | (simp only [List.length_drop, List.length_take]; rfl)) ?_; (with_reducible refine (quilllaw14_num.calls t154 t160 _ A53.out).mono ?_); rintro e w' ⟨rfl, ⟨nd, rfl⟩⟩; refine ⟨_, rfl, ?_⟩))
                                      go_meet
                                      case rel => exact ⟨_, (true), (by first | rfl | (simp; done) | (simp [*]; done)), H', ⟨by have := HK1.out; have := HJ9.out; have := HK3.out; have := HJ25.out; have := HJ33.out; first | omega | exact Nat.le_refl _⟩, ⟨by (with_reducible repeat (first | apply Kd.R_alloc | apply Kd.R_drewN | apply Kd.R_drew)); exact HO_5.out⟩, ⟨by (with_reducible repeat (first | refine blk_drewN ?_ _ | refine blk_drew ?_ | refine blk_alloc ?_ _)); exact BK144.out⟩, ⟨by repeat (first | (with_reducible first | exact HB.out | apply below_alloc | apply pw_below_drewN | apply below_drew1 | refine below_set ?_ GE144.out) | exact HB.out)⟩⟩
                                  case rest =>
                                    clear HC52
                                    try clear c1
                                    try clear p1
                                    try clear q1
                                    try clear hx1
                                    try clear c2
                                    try clear p2
                                    try clear c3
                                    try clear c4
                                    try clear c5
                                    try clear p6
                                    try clear c10
                                    try clear c11
                                    try clear c11b0
                                    try clear c14
                                    try clear p14
                                    try clear q14
                                    try clear hx14
                                    try clear c15
                                    try clear c15b0
                                    try clear c16
                                    try clear c16b0
                                    try clear c18
                                    try clear c18b0
                                    try clear c18b1
                                    try clear c25
                                    try clear c25b0
                                    try clear c28
                                    try clear c37
                                    try clear c39
                                    try clear c39b0
                                    try clear c40
                                    try clear c41
                                    try clear c41b0
                                    try clear c44
                                    try clear c45
                                    try clear c46
                                    try clear c47
                                    try clear c47b0
                                    try clear c54
                                    try clear c54b0
                                    try clear c54b1
                                    try clear c56
                                    try clear c56b0
                                    try clear c56b1
                                    try clear c57
                                    try clear c57b0
                                    try clear c57b1
                                    try clear hcz12_0
                                    try clear hcz12_1
                                    try clear hcz12_2
                                    try clear hcz12_3
                                    try clear hcz12_4
                                    try clear hcz12_5
                                    try clear hcz12_6
                                    try clear hcz12_7
                                    try clear hcz13_0
                                    try clear hcz13_1
                                    try clear hcz13_2
                                    try clear hcz13_3
                                    try clear hcz13_4
                                    try clear hcz13_5
                                    try clear hcz13_6
                                    try clear hcz13_7
                                    try clear hcz19_0
                                    try clear hcz19_1
                                    try clear hcz19_2
                                    try clear hcz19_3
                                    try clear hcz19_4
                                    try clear hcz19_5
                                    try clear hcz19_6
                                    try clear hcz19_7
                                    try clear hcz22_0
                                    try clear hcz22_1
                                    try clear hcz22_2
                                    try clear hcz22_3
                                    try clear hcz22_4
                                    try clear hcz22_5
                                    try clear hcz22_6
                                    try clear hcz22_7
                                    try clear hcz5_0
                                    try clear hcz5_1
                                    try clear hcz5_2
                                    try clear hcz5_3
                                    try clear hcz5_4
                                    try clear hcz5_5
                                    try clear hcz5_6
                                    try clear hcz5_7
                                    try clear hcz8_0
                                    try clear hcz8_1
                                    try clear hcz8_2
                                    try clear hcz8_3
                                    try clear hcz8_4
                                    try clear hcz8_5
                                    try clear hcz8_6
                                    try clear hcz8_7
                                    try clear hfz12_0
                                    try clear hfz12_1
                                    try clear hfz12_2
                                    try clear hfz12_3
                                    try clear hfz12_4
                                    try clear hfz12_5
                                    try clear hfz12_6
                                    try clear hfz12_7
                                    try clear hfz13_0
                                    try clear hfz13_1
                                    try clear hfz13_2
                                    try clear hfz13_3
                                    try clear hfz13_4
                                    try clear hfz13_5
                                    try clear hfz13_6
                                    try clear hfz13_7
                                    try clear hfz19_0
                                    try clear hfz19_1
                                    try clear hfz19_2
                                    try clear hfz19_3
                                    try clear hfz19_4
                                    try clear hfz19_5
                                    try clear hfz19_6
                                    try clear hfz19_7
                                    try clear hfz22_0
                                    try clear hfz22_1
                                    try clear hfz22_2
                                    try clear hfz22_3
                                    try clear hfz22_4
                                    try clear hfz22_5
                                    try clear hfz22_6
                                    try clear hfz22_7
                                    try clear hfz5_0
                                    try clear hfz5_1
                                    try clear hfz5_2
                                    try clear hfz5_3
                                    try clear hfz5_4
                                    try clear hfz5_5
                                    try clear hfz5_6
                                    try clear hfz5_7
                                    try clear hfz8_0
                                    try clear hfz8_1
                                    try clear hfz8_2
                                    try clear hfz8_3
                                    try clear hfz8_4
                                    try clear hfz8_5
                                    try clear hfz8_6
                                    try clear hfz8_7
                                    try clear hx147_0
                                    try clear p1
                                    try clear p14
                                    try clear p147
                                    try clear p2
                                    try clear p6
                                    try clear q1
                                    try clear q14
                                    try clear q147
                                    obtain ⟨kq, x112_51, rfl, HA, HJ51, HO_5, BK144, HB⟩ := hcut
                                    cases kq with
                                    | zero => exact absurd HA.out (by simp [quilllaw14_PairsMates.j5])
                                    | succ kj51 =>
                                      have H := HA.out
                                      clear HA
                                      simp only [quilllaw14_PairsMates.j5] at H
                                      by_cases c58 : x112_51 = true
                                      · subst c58
                                        have H1 : (some false) = some r := by rw [if_pos rfl] at H; exact H
                                        clear H
                                        have H := H1
                                        clear H1
                                        exact absurd (H.trans (congrArg some HRT.out)) (by decide)
                                      · replace c58 := Bool.eq_false_iff.mpr c58
                                        subst c58
                                        have H1 : (quilllaw14_PairsMates.l2 kj51 x3_1 (rdOf ByteArray.empty l0_0 x3_1) t148 x6_3 x7_25 (([40, 91, 123, a0_5] : List Int)) 0 l0_0 a0_1 a0_2 a0_3 a0_4 a0_5 a0_6 a0_7) = some r := by rw [if_neg (show ¬ (false = true) by decide)] at H; exact H
                                        clear H
                                        have H := H1
                                        clear H1
                                        obtain ⟨y162, hy162⟩ : ∃ y_ : List Int, y_ = (([40, 91, 123, a0_5] : List Int)) := ⟨_, rfl⟩
                                        replace H : (quilllaw14_PairsMates.l2 kj51 x3_1 (rdOf ByteArray.empty l0_0 x3_1) t148 x6_3 x7_25 y162 0 l0_0 a0_1 a0_2 a0_3 a0_4 a0_5 a0_6 a0_7) = some r := by first | (rw [hy162]; with_reducible exact H) | (have H2_ := (Option.bind_some _ _).symm.trans H; rw [hy162]; with_reducible exact H2_) | (have H2_ := (Option.bind_some _ _).symm.trans H; with_reducible exact H2_) | with_reducible exact H | (rw [hy162]; exact H) | exact H
                                        have Ny162 := Aside0.mk hy162
                                        clear hy162
                                        have H' := Aside0.mk H
                                        clear H
                                        have hcz59_0 : wc.cell? ⟨gb144, 0, none⟩ = some (.slice (some ad147) l0_0.length c0_0) := (blk_cell BK144.out 0).trans rfl
                                        have hcz59_1 : wc.cell? ⟨gb144, 1, none⟩ = some (.int .i64 a0_1) := (blk_cell BK144.out 1).trans rfl
                                        have hcz59_2 : wc.cell? ⟨gb144, 2, none⟩ = some (.int .i64 a0_2) := (blk_cell BK144.out 2).trans rfl
                                        have hcz59_3 : wc.cell? ⟨gb144, 3, none⟩ = some (.int .i64 a0_3) := (blk_cell BK144.out 3).trans rfl
                                        have hcz59_4 : wc.cell? ⟨gb144, 4, none⟩ = some (.int .i64 a0_4) := (blk_cell BK144.out 4).trans rfl
                                        have hcz59_5 : wc.cell? ⟨gb144, 5, none⟩ = some (.int .i64 a0_5) := (blk_cell BK144.out 5).trans rfl
                                        have hcz59_6 : wc.cell? ⟨gb144, 6, none⟩ = some (.int .i64 a0_6) := (blk_cell BK144.out 6).trans rfl
                                        have hcz59_7 : wc.cell? ⟨gb144, 7, none⟩ = some (.int .i64 a0_7) := (blk_cell BK144.out 7).trans rfl
                                        have hfz59_0 := blk_frozen BK144.out 0
                                        have hfz59_1 := blk_frozen BK144.out 1
                                        have hfz59_2 := blk_frozen BK144.out 2
                                        have hfz59_3 := blk_frozen BK144.out 3
                                        have hfz59_4 := blk_frozen BK144.out 4
                                        have hfz59_5 := blk_frozen BK144.out 5
                                        have hfz59_6 := blk_frozen BK144.out 6
                                        have hfz59_7 := blk_frozen BK144.out 7
                                        go_wp2_with (first | ((with_reducible refine gate_dst (N := 115) rfl ?_); (try (refine gate_guard (by rfl) ?_; dsimp only)); refine Kd.R_lit (Kd.int .i64) _ 3 ?hg (N := 115) ?hd (xs := ([40, 91, 123, a0_5] : List Int)) (inner := [.int .i64 40, .int .i64 91, .int .i64 123, .int .i64 a0_5]) (ok := fun _ => True) (okp := fun _ => True) ?hr ?hp (fun _ hk => hk) trivial (Below.refl _ _) (Nat.le_refl _) (by simp) ?_; (case hd => rfl); (case hg => rfl); (case hr => first | (go_simp; done) | (go_simp; rfl)); (case hp => exact (Reps.one (show Kd.M (Kd.int .i64) _ _ _ 40 [.int .i64 40] from rfl) (Reps.one (show Kd.M (Kd.int .i64) _ _ _ 91 [.int .i64 91] from rfl) (Reps.one (show Kd.M (Kd.int .i64) _ _ _ 123 [.int .i64 123] from rfl) (Reps.one (show Kd.M (Kd.int .i64) _ _ _ a0_5 [.int .i64 a0_5] from rfl) (Reps.none _ _)))))); intro v163 w60 ho61 hb hg_ hnew_; clear hg_ hnew_; (first | rw [← Ny162.out] at ho61 | (simp only [Int.reduceToNat] at ho61; rw [← Ny162.out] at ho61)); have n0_ := Aside0.mk (Kd.R_below (by (with_reducible repeat (first | apply Kd.R_alloc | apply Kd.R_drewN | apply Kd.R_drew)); exact HO_5.out) hb); have n1_ := Aside0.mk (Kd.R_lower ho61 (below_size (by repeat (first | (with_reducible first | exact HB.out | apply below_alloc | apply pw_below_drewN | apply below_drew1 | refine below_set ?_ GE144.out) | exact HB.out)))); have n2_ := Aside0.mk (blk_below (g := gb144) (o := .cells #[.slice (some ad147) l0_0.length c0_0, .int .i64 a0_1, .int .i64 a0_2, .int .i64 a0_3, .int .i64 a0_4, .int .i64 a0_5, .int .i64 a0_6, .int .i64 a0_7] 50 (0, 0)) (by (with_reducible repeat (first | refine blk_drewN ?_ _ | refine blk_drew ?_ | refine blk_alloc ?_ _)); exact BK144.out) hb); have n3_ := Aside0.mk (below_step (by repeat (first | (with_reducible first | exact HB.out | apply below_alloc | apply pw_below_drewN | apply below_drew1 | refine below_set ?_ GE144.out) | exact HB.out)) hb); clear HO_5; clear BK144; clear HB; have HO_5 := n0_; have HO164 := n1_; have BK144 := n2_; have HB := n3_; clear n0_ n1_ n2_ n3_; clear hb ho61))
                                        go_loopg [19] kj51 (fun kq v19 w' => ∃ (x19_7 : Int), v19 = .int .i64 x19_7 ∧ Aside0 (quilllaw14_PairsMates.l2 kq x3_1 (rdOf ByteArray.empty l0_0 x3_1) t148 x6_3 x7_25 y162 x19_7 l0_0 a0_1 a0_2 a0_3 a0_4 a0_5 a0_6 a0_7 = some r) ∧ Aside0 (kq ≤ kj51) ∧ Aside0 (Kd.R (Kd.int .i32) 21 w' w.heap.size (fun _ => True) (.slice Ao24 t148.length co24) t148) ∧ Aside0 (Kd.R (Kd.int .i64) 3 w' w.heap.size (fun _ => True) v163 y162) ∧ Aside0 (w'.heap[gb144]? = some (.cells #[(.slice (some ad147) l0_0.length c0_0), .int .i64 a0_1, .int .i64 a0_2, .int .i64 a0_3, .int .i64 a0_4, .int .i64 a0_5, .int .i64 a0_6, .int .i64 a0_7] 50 (0, 0))) ∧ Aside0 (Below w.heap.size w w'))
                                        case atStart => exact ⟨(0), (by first | rfl | (simp; done) | (simp [*]; done)), H', ⟨Nat.le_refl _⟩, ⟨by (with_reducible repeat (first | apply Kd.R_alloc | apply Kd.R_drewN | apply Kd.R_drew)); exact HO_5.out⟩, ⟨by (with_reducible repeat (first | apply Kd.R_alloc | apply Kd.R_drewN | apply Kd.R_drew)); exact HO164.out⟩, ⟨by (with_reducible repeat (first | refine blk_drewN ?_ _ | refine blk_drew ?_ | refine blk_alloc ?_ _)); exact BK144.out⟩, ⟨by repeat (first | (with_reducible first | exact HB.out | apply below_alloc | apply pw_below_drewN | apply below_drew1 | refine below_set ?_ GE144.out) | exact HB.out)⟩⟩
                                        case round =>
                                          clear H'
                                          try clear c1
                                          try clear p1
                                          try clear q1
                                          try clear hx1
                                          try clear c2
                                          try clear p2
                                          try clear c3
                                          try clear c4
                                          try clear c5
                                          try clear p6
                                          try clear c10
                                          try clear c11
                                          try clear c11b0
                                          try clear c14
                                          try clear p14
                                          try clear q14
                                          try clear hx14
                                          try clear c15
                                          try clear c15b0
                                          try clear c16
                                          try clear c16b0
                                          try clear c18
                                          try clear c18b0
                                          try clear c18b1
                                          try clear c25
                                          try clear c25b0
                                          try clear c28
                                          try clear c37
                                          try clear c39
                                          try clear c39b0
                                          try clear c40
                                          try clear c41
                                          try clear c41b0
                                          try clear c44
                                          try clear c45
                                          try clear c46
                                          try clear c47
                                          try clear c47b0
                                          try clear c54
                                          try clear c54b0
                                          try clear c54b1
                                          try clear c56
                                          try clear c56b0
                                          try clear c56b1
                                          try clear c57
                                          try clear c57b0
                                          try clear c57b1
                                          try clear c58
                                          try clear hcz12_0
                                          try clear hcz12_1
                                          try clear hcz12_2
                                          try clear hcz12_3
                                          try clear hcz12_4
                                          try clear hcz12_5
                                          try clear hcz12_6
                                          try clear hcz12_7
                                          try clear hcz13_0
                                          try clear hcz13_1
                                          try clear hcz13_2
                                          try clear hcz13_3
                                          try clear hcz13_4
                                          try clear hcz13_5
                                          try clear hcz13_6
                                          try clear hcz13_7
                                          try clear hcz19_0
                                          try clear hcz19_1
                                          try clear hcz19_2
                                          try clear hcz19_3
                                          try clear hcz19_4
                                          try clear hcz19_5
                                          try clear hcz19_6
                                          try clear hcz19_7
                                          try clear hcz22_0
                                          try clear hcz22_1
                                          try clear hcz22_2
                                          try clear hcz22_3
                                          try clear hcz22_4
                                          try clear hcz22_5
                                          try clear hcz22_6
                                          try clear hcz22_7
                                          try clear hcz59_0
                                          try clear hcz59_1
                                          try clear hcz59_2
                                          try clear hcz59_3
                                          try clear hcz59_4
                                          try clear hcz59_5
                                          try clear hcz59_6
                                          try clear hcz59_7
                                          try clear hcz5_0
                                          try clear hcz5_1
                                          try clear hcz5_2
                                          try clear hcz5_3
                                          try clear hcz5_4
                                          try clear hcz5_5
                                          try clear hcz5_6
                                          try clear hcz5_7
                                          try clear hcz8_0
                                          try clear hcz8_1
                                          try clear hcz8_2
                                          try clear hcz8_3
                                          try clear hcz8_4
                                          try clear hcz8_5
                                          try clear hcz8_6
                                          try clear hcz8_7
                                          try clear hfz12_0
                                          try clear hfz12_1
                                          try clear hfz12_2
                                          try clear hfz12_3
                                          try clear hfz12_4
                                          try clear hfz12_5
                                          try clear hfz12_6
                                          try clear hfz12_7
                                          try clear hfz13_0
                                          try clear hfz13_1
                                          try clear hfz13_2
                                          try clear hfz13_3
                                          try clear hfz13_4
                                          try clear hfz13_5
                                          try clear hfz13_6
                                          try clear hfz13_7
                                          try clear hfz19_0
                                          try clear hfz19_1
                                          try clear hfz19_2
                                          try clear hfz19_3
                                          try clear hfz19_4
                                          try clear hfz19_5
                                          try clear hfz19_6
                                          try clear hfz19_7
                                          try clear hfz22_0
                                          try clear hfz22_1
                                          try clear hfz22_2
                                          try clear hfz22_3
                                          try clear hfz22_4
                                          try clear hfz22_5
                                          try clear hfz22_6
                                          try clear hfz22_7
                                          try clear hfz59_0
                                          try clear hfz59_1
                                          try clear hfz59_2
                                          try clear hfz59_3
                                          try clear hfz59_4
                                          try clear hfz59_5
                                          try clear hfz59_6
                                          try clear hfz59_7
                                          try clear hfz5_0
                                          try clear hfz5_1
                                          try clear hfz5_2
                                          try clear hfz5_3
                                          try clear hfz5_4
                                          try clear hfz5_5
                                          try clear hfz5_6
                                          try clear hfz5_7
                                          try clear hfz8_0
                                          try clear hfz8_1
                                          try clear hfz8_2
                                          try clear hfz8_3
                                          try clear hfz8_4
                                          try clear hfz8_5
                                          try clear hfz8_6
                                          try clear hfz8_7
                                          try clear hx147_0
                                          try clear p1
                                          try clear p14
                                          try clear p147
                                          try clear p2
                                          try clear p6
                                          try clear q1
                                          try clear q14
                                          try clear q147
                                          obtain ⟨x19_7, rfl, HA, HK7, HO_5, HO_18, BK144, HB⟩ := hrel
                                          cases gk with
                                          | zero => exact absurd HA.out (by simp [quilllaw14_PairsMates.l2])
                                          | succ k7 =>
                                            have H := HA.out
                                            clear HA
                                            simp only [quilllaw14_PairsMates.l2] at H
                                            by_cases c62 : x19_7 < (y162.length : Int)
                                            · rw [if_pos c62] at H
                                              have c62b0 : decide (x19_7 < (y162.length : Int)) = true := decide_eq_true c62
                                              clear c62
                                              by_cases c63 : 0 ≤ x19_7
                                              · rw [if_pos c63] at H
                                                have c63b0 : decide (0 ≤ x19_7) = true := decide_eq_true c63
                                                clear c63
                                                replace H := Option.bind_eq_some_iff.mp H
                                                obtain ⟨⟨t166, t167, t168⟩, A640, H⟩ := H
                                                replace H : (if x7_25 = true then (if (rd y162 x19_7) = 40 then (quilllaw14_PairsMates.j7 k7 x3_1 (rdOf ByteArray.empty l0_0 x3_1) t148 x6_3 x7_25 1 y162 x19_7 (wrap64 (1 + (Int.tmod (wrap64 ((wrap64 (x6_3 + x19_7)) + 2)) 2))) t166 t167 t168 0 0 true l0_0 a0_1 a0_2 a0_3 a0_4 a0_5 a0_6 a0_7) else (if (rd y162 x19_7) = 91 then (quilllaw14_PairsMates.j7 k7 x3_1 (rdOf ByteArray.empty l0_0 x3_1) t148 x6_3 x7_25 1 y162 x19_7 (wrap64 (1 + (Int.tmod (wrap64 ((wrap64 (x6_3 + x19_7)) + 2)) 2))) t166 t167 t168 0 0 true l0_0 a0_1 a0_2 a0_3 a0_4 a0_5 a0_6 a0_7) else (quilllaw14_PairsMates.j7 k7 x3_1 (rdOf ByteArray.empty l0_0 x3_1) t148 x6_3 x7_25 1 y162 x19_7 (wrap64 (1 + (Int.tmod (wrap64 ((wrap64 (x6_3 + x19_7)) + 2)) 2))) t166 t167 t168 0 0 ((rd y162 x19_7) == 123) l0_0 a0_1 a0_2 a0_3 a0_4 a0_5 a0_6 a0_7))) else (quilllaw14_PairsMates.j7 k7 x3_1 (rdOf ByteArray.empty l0_0 x3_1) t148 x6_3 x7_25 1 y162 x19_7 (wrap64 (1 + (Int.tmod (wrap64 ((wrap64 (x6_3 + x19_7)) + 2)) 2))) t166 t167 t168 0 0 false l0_0 a0_1 a0_2 a0_3 a0_4 a0_5 a0_6 a0_7)) = some r := H
                                                have A64 := Aside0.mk A640
                                                clear A640
                                                have HC65 := Aside0.mk H
                                                clear H
                                                obtain ⟨Ao66, co66, eo66⟩ := Kd.R_slice HO_18.out
                                                subst eo66
                                                have p165 : 0 ≤ (x19_7 : Int) := of_decide_eq_true (by first | (with_reducible assumption) | assumption)
                                                have q165 : x19_7 < (y162.length : Int) := of_decide_eq_true (by first | (with_reducible assumption) | assumption)
                                                obtain ⟨ad165, e165, hx165_0⟩ := Kd.at_int (Kd.R_reads' HO_18.out).2.2 x19_7 p165 q165
                                                cases e165
                                                replace p165 := eq_true p165
                                                replace q165 := eq_true q165
                                                go_upto_region 34 with (first | ((with_reducible refine gate_callee (f := 42) rfl ?_); refine goesL_ (some 136) rfl rfl Tryd.func42 (by as_aux_lemma => kernel_rfl) rfl #[.string (rdOf ByteArray.empty l0_0 x3_1), .int .i64 x6_3, .int .i64 (rd y162 x19_7), .int .i64 (wrap64 (1 + (Int.tmod (wrap64 ((wrap64 (x6_3 + x19_7)) + 2)) 2)))] rfl (by (try simp only [List.map_toArray, List.map_cons, List.map_nil]); first | done | rfl | (simp only [List.length_drop, List.length_take]; rfl)) ?_; (with_reducible refine (pairs_Around.calls (rdOf ByteArray.empty l0_0 x3_1) x6_3 (rd y162 x19_7) (wrap64 (1 + (Int.tmod (wrap64 ((wrap64 (x6_3 + x19_7)) + 2)) 2))) t166 t167 t168 _ ?side1 A64.out).mono ?_); (case side1 => repeat (first | exact HT.out | exact T_below HT.out HB.out | (with_reducible refine T_alloc ?_ _) | (with_reducible refine T_drewN ?_ _) | (with_reducible refine T_drew ?_) | exact T_below HT.out (by repeat (first | (with_reducible first | exact HB.out | apply below_alloc | apply pw_below_drewN | apply below_drew1 | refine below_set ?_ GE144.out) | exact HB.out)))); rintro e w67 ⟨rfl, hb⟩; refine ⟨_, rfl, ?_⟩; have n0_ := Aside0.mk (Kd.R_below (by (with_reducible repeat (first | apply Kd.R_alloc | apply Kd.R_drewN | apply Kd.R_drew)); exact HO_5.out) hb); have n1_ := Aside0.mk (Kd.R_below (by (with_reducible repeat (first | apply Kd.R_alloc | apply Kd.R_drewN | apply Kd.R_drew)); exact HO_18.out) hb); have n2_ := Aside0.mk (blk_below (g := gb144) (o := .cells #[.slice (some ad147) l0_0.length c0_0, .int .i64 a0_1, .int .i64 a0_2, .int .i64 a0_3, .int .i64 a0_4, .int .i64 a0_5, .int .i64 a0_6, .int .i64 a0_7] 50 (0, 0)) (by (with_reducible repeat (first | refine blk_drewN ?_ _ | refine blk_drew ?_ | refine blk_alloc ?_ _)); exact BK144.out) hb); have n3_ := Aside0.mk (below_step (by repeat (first | (with_reducible first | exact HB.out | apply below_alloc | apply pw_below_drewN | apply below_drew1 | refine below_set ?_ GE144.out) | exact HB.out)) hb); clear HO_5; clear HO_18; clear BK144; clear HB; have HO_5 := n0_; have HO_18 := n1_; have BK144 := n2_; have HB := n3_; clear n0_ n1_ n2_ n3_; (try clear hb); (try clear hb2); (try clear hk); (try clear hi)))
                                                (try simp only [Act.put, List.setIfInBounds_toArray, List.set_cons_zero, List.set_cons_succ])
                                                go_cut [161] (fun v161 wc => ∃ (kq : Nat) (x161_64 : Bool), v161 = .bool x161_64 ∧ Aside0 (quilllaw14_PairsMates.j7 kq x3_1 (rdOf ByteArray.empty l0_0 x3_1) t148 x6_3 x7_25 1 y162 x19_7 (wrap64 (1 + (Int.tmod (wrap64 ((wrap64 (x6_3 + x19_7)) + 2)) 2))) t166 t167 t168 0 0 x161_64 l0_0 a0_1 a0_2 a0_3 a0_4 a0_5 a0_6 a0_7 = some r) ∧ Aside0 (kq ≤ k7) ∧ Aside0 (Kd.R (Kd.int .i32) 21 wc w.heap.size (fun _ => True) (.slice Ao24 t148.length co24) t148) ∧ Aside0 (Kd.R (Kd.int .i64) 3 wc w.heap.size (fun _ => True) (.slice (some ad165) y162.length co66) y162) ∧ Aside0 (wc.heap[gb144]? = some (.cells #[(.slice (some ad147) l0_0.length c0_0), .int .i64 a0_1, .int .i64 a0_2, .int .i64 a0_3, .int .i64 a0_4, .int .i64 a0_5, .int .i64 a0_6, .int .i64 a0_7] 50 (0, 0))) ∧ Aside0 (Below w.heap.size w wc))
                                                case first => as_aux_lemma =>
                                                  have H := HC65.out
                                                  clear HC65
                                                  by_cases c68 : x7_25 = true
                                                  · subst c68
                                                    have H1 : (if (rd y162 x19_7) = 40 then (quilllaw14_PairsMates.j7 k7 x3_1 (rdOf ByteArray.empty l0_0 x3_1) t148 x6_3 true 1 y162 x19_7 (wrap64 (1 + (Int.tmod (wrap64 ((wrap64 (x6_3 + x19_7)) + 2)) 2))) t166 t167 t168 0 0 true l0_0 a0_1 a0_2 a0_3 a0_4 a0_5 a0_6 a0_7) else (if (rd y162 x19_7) = 91 then (quilllaw14_PairsMates.j7 k7 x3_1 (rdOf ByteArray.empty l0_0 x3_1) t148 x6_3 true 1 y162 x19_7 (wrap64 (1 + (Int.tmod (wrap64 ((wrap64 (x6_3 + x19_7)) + 2)) 2))) t166 t167 t168 0 0 true l0_0 a0_1 a0_2 a0_3 a0_4 a0_5 a0_6 a0_7) else (quilllaw14_PairsMates.j7 k7 x3_1 (rdOf ByteArray.empty l0_0 x3_1) t148 x6_3 true 1 y162 x19_7 (wrap64 (1 + (Int.tmod (wrap64 ((wrap64 (x6_3 + x19_7)) + 2)) 2))) t166 t167 t168 0 0 ((rd y162 x19_7) == 123) l0_0 a0_1 a0_2 a0_3 a0_4 a0_5 a0_6 a0_7))) = some r := by rw [if_pos rfl] at H; exact H
                                                    clear H
                                                    have H := H1
                                                    clear H1
                                                    by_cases c69 : (rd y162 x19_7) = 40
                                                    · rw [if_pos c69] at H
                                                      have c69b0 : ((rd y162 x19_7) == 40) = true := beq_iff_eq.mpr c69
                                                      have c69b1 : ((rd y162 x19_7) != 40) = false := bne_eq_false_iff_eq.mpr c69
                                                      clear c69
                                                      (first | rw [c69b0] | (simp only [i64_w, i32_w]; rw [c69b0]) | skip)
                                                      have H' := Aside0.mk H
                                                      clear H
                                                      have p169 : 0 ≤ (x19_7 : Int) := of_decide_eq_true (by first | (with_reducible assumption) | assumption)
                                                      have q169 : x19_7 < (y162.length : Int) := of_decide_eq_true (by first | (with_reducible assumption) | assumption)
                                                      obtain ⟨ad169, e169, hx169_0⟩ := Kd.at_int (Kd.R_reads' HO_18.out).2.2 x19_7 p169 q169
                                                      obtain rfl : ad165 = ad169 := (by injection e169)
                                                      replace p169 := eq_true p169
                                                      replace q169 := eq_true q169
                                                      go_wp2
                                                      go_meet
                                                      case rel => exact ⟨_, (true), (by first | rfl | (simp; done) | (simp [*]; done)), H', ⟨by have := HK1.out; have := HJ9.out; have := HK3.out; have := HJ25.out; have := HJ33.out; have := HJ51.out; have := HK7.out; first | omega | exact Nat.le_refl _⟩, ⟨by (with_reducible repeat (first | apply Kd.R_alloc | apply Kd.R_drewN | apply Kd.R_drew)); exact HO_5.out⟩, ⟨by (with_reducible repeat (first | apply Kd.R_alloc | apply Kd.R_drewN | apply Kd.R_drew)); exact HO_18.out⟩, ⟨by (with_reducible repeat (first | refine blk_drewN ?_ _ | refine blk_drew ?_ | refine blk_alloc ?_ _)); exact BK144.out⟩, ⟨by repeat (first | (with_reducible first | exact HB.out | apply below_alloc | apply pw_below_drewN | apply below_drew1 | refine below_set ?_ GE144.out) | exact HB.out)⟩⟩
                                                    · rw [if_neg c69] at H
                                                      have c69b0 : ((rd y162 x19_7) == 40) = false := beq_eq_false_iff_ne.mpr c69
                                                      have c69b1 : ((rd y162 x19_7) != 40) = true := bne_iff_ne.mpr c69
                                                      (first | rw [c69b0] | (simp only [i64_w, i32_w]; rw [c69b0]) | skip)
                                                      by_cases c70 : (rd y162 x19_7) = 91
                                                      · rw [if_pos c70] at H
                                                        have c70b0 : ((rd y162 x19_7) == 91) = true := beq_iff_eq.mpr c70
                                                        have c70b1 : ((rd y162 x19_7) != 91) = false := bne_eq_false_iff_eq.mpr c70
                                                        clear c70
                                                        have H' := Aside0.mk H
                                                        clear H
                                                        have p169 : 0 ≤ (x19_7 : Int) := of_decide_eq_true (by first | (with_reducible assumption) | assumption)
                                                        have q169 : x19_7 < (y162.length : Int) := of_decide_eq_true (by first | (with_reducible assumption) | assumption)
                                                        obtain ⟨ad169, e169, hx169_0⟩ := Kd.at_int (Kd.R_reads' HO_18.out).2.2 x19_7 p169 q169
                                                        obtain rfl : ad165 = ad169 := (by injection e169)
                                                        replace p169 := eq_true p169
                                                        replace q169 := eq_true q169
                                                        have p170 : 0 ≤ (x19_7 : Int) := of_decide_eq_true (by first | (with_reducible assumption) | assumption)
                                                        have q170 : x19_7 < (y162.length : Int) := of_decide_eq_true (by first | (with_reducible assumption) | assumption)
                                                        obtain ⟨ad170, e170, hx170_0⟩ := Kd.at_int (Kd.R_reads' HO_18.out).2.2 x19_7 p170 q170
                                                        obtain rfl : ad165 = ad170 := (by injection e170)
                                                        replace p170 := eq_true p170
                                                        replace q170 := eq_true q170
                                                        go_wp2
                                                        go_meet
                                                        case rel => exact ⟨_, (true), (by first | rfl | (simp; done) | (simp [*]; done)), H', ⟨by have := HK1.out; have := HJ9.out; have := HK3.out; have := HJ25.out; have := HJ33.out; have := HJ51.out; have := HK7.out; first | omega | exact Nat.le_refl _⟩, ⟨by (with_reducible repeat (first | apply Kd.R_alloc | apply Kd.R_drewN | apply Kd.R_drew)); exact HO_5.out⟩, ⟨by (with_reducible repeat (first | apply Kd.R_alloc | apply Kd.R_drewN | apply Kd.R_drew)); exact HO_18.out⟩, ⟨by (with_reducible repeat (first | refine blk_drewN ?_ _ | refine blk_drew ?_ | refine blk_alloc ?_ _)); exact BK144.out⟩, ⟨by repeat (first | (with_reducible first | exact HB.out | apply below_alloc | apply pw_below_drewN | apply below_drew1 | refine below_set ?_ GE144.out) | exact HB.out)⟩⟩
                                                      · rw [if_neg c70] at H
                                                        have c70b0 : ((rd y162 x19_7) == 91) = false := beq_eq_false_iff_ne.mpr c70
                                                        have c70b1 : ((rd y162 x19_7) != 91) = true := bne_iff_ne.mpr c70
                                                        have H' := Aside0.mk H
                                                        clear H
                                                        have p169 : 0 ≤ (x19_7 : Int) := of_decide_eq_true (by first | (with_reducible assumption) | assumption)
                                                        have q169 : x19_7 < (y162.length : Int) := of_decide_eq_true (by first | (with_reducible assumption) | assumption)
                                                        obtain ⟨ad169, e169, hx169_0⟩ := Kd.at_int (Kd.R_reads' HO_18.out).2.2 x19_7 p169 q169
                                                        obtain rfl : ad165 = ad169 := (by injection e169)
                                                        replace p169 := eq_true p169
                                                        replace q169 := eq_true q169
                                                        have p170 : 0 ≤ (x19_7 : Int) := of_decide_eq_true (by first | (with_reducible assumption) | assumption)
                                                        have q170 : x19_7 < (y162.length : Int) := of_decide_eq_true (by first | (with_reducible assumption) | assumption)
                                                        obtain ⟨ad170, e170, hx170_0⟩ := Kd.at_int (Kd.R_reads' HO_18.out).2.2 x19_7 p170 q170
                                                        obtain rfl : ad165 = ad170 := (by injection e170)
                                                        replace p170 := eq_true p170
                                                        replace q170 := eq_true q170
                                                        have p171 : 0 ≤ (x19_7 : Int) := of_decide_eq_true (by first | (with_reducible assumption) | assumption)
                                                        have q171 : x19_7 < (y162.length : Int) := of_decide_eq_true (by first | (with_reducible assumption) | assumption)
                                                        obtain ⟨ad171, e171, hx171_0⟩ := Kd.at_int (Kd.R_reads' HO_18.out).2.2 x19_7 p171 q171
                                                        obtain rfl : ad165 = ad171 := (by injection e171)
                                                        replace p171 := eq_true p171
                                                        replace q171 := eq_true q171
                                                        go_wp2
                                                        go_meet
                                                        case rel => exact ⟨_, (((rd y162 x19_7) == 123)), (by first | rfl | (simp; done) | (simp [*]; done)), H', ⟨by have := HK1.out; have := HJ9.out; have := HK3.out; have := HJ25.out; have := HJ33.out; have := HJ51.out; have := HK7.out; first | omega | exact Nat.le_refl _⟩, ⟨by (with_reducible repeat (first | apply Kd.R_alloc | apply Kd.R_drewN | apply Kd.R_drew)); exact HO_5.out⟩, ⟨by (with_reducible repeat (first | apply Kd.R_alloc | apply Kd.R_drewN | apply Kd.R_drew)); exact HO_18.out⟩, ⟨by (with_reducible repeat (first | refine blk_drewN ?_ _ | refine blk_drew ?_ | refine blk_alloc ?_ _)); exact BK144.out⟩, ⟨by repeat (first | (with_reducible first | exact HB.out | apply below_alloc | apply pw_below_drewN | apply below_drew1 | refine below_set ?_ GE144.out) | exact HB.out)⟩⟩
                                                  · replace c68 := Bool.eq_false_iff.mpr c68
                                                    subst c68
                                                    have H1 : (quilllaw14_PairsMates.j7 k7 x3_1 (rdOf ByteArray.empty l0_0 x3_1) t148 x6_3 false 1 y162 x19_7 (wrap64 (1 + (Int.tmod (wrap64 ((wrap64 (x6_3 + x19_7)) + 2)) 2))) t166 t167 t168 0 0 false l0_0 a0_1 a0_2 a0_3 a0_4 a0_5 a0_6 a0_7) = some r := by rw [if_neg (show ¬ (false = true) by decide)] at H; exact H
                                                    clear H
                                                    have H := H1
                                                    clear H1
                                                    have H' := Aside0.mk H
                                                    clear H
                                                    go_wp2
                                                    go_meet
                                                    case rel => exact ⟨_, (false), (by first | rfl | (simp; done) | (simp [*]; done)), H', ⟨by have := HK1.out; have := HJ9.out; have := HK3.out; have := HJ25.out; have := HJ33.out; have := HJ51.out; have := HK7.out; first | omega | exact Nat.le_refl _⟩, ⟨by (with_reducible repeat (first | apply Kd.R_alloc | apply Kd.R_drewN | apply Kd.R_drew)); exact HO_5.out⟩, ⟨by (with_reducible repeat (first | apply Kd.R_alloc | apply Kd.R_drewN | apply Kd.R_drew)); exact HO_18.out⟩, ⟨by (with_reducible repeat (first | refine blk_drewN ?_ _ | refine blk_drew ?_ | refine blk_alloc ?_ _)); exact BK144.out⟩, ⟨by repeat (first | (with_reducible first | exact HB.out | apply below_alloc | apply pw_below_drewN | apply below_drew1 | refine below_set ?_ GE144.out) | exact HB.out)⟩⟩
                                                case rest =>
                                                  clear HC65
                                                  try clear c1
                                                  try clear p1
                                                  try clear q1
                                                  try clear hx1
                                                  try clear c2
                                                  try clear p2
                                                  try clear c3
                                                  try clear c4
                                                  try clear c5
                                                  try clear c6
                                                  try clear p6
                                                  try clear c7
                                                  try clear c10
                                                  try clear c11
                                                  try clear c11b0
                                                  try clear c14
                                                  try clear p14
                                                  try clear q14
                                                  try clear hx14
                                                  try clear c15
                                                  try clear c15b0
                                                  try clear c16
                                                  try clear c16b0
                                                  try clear p16
                                                  try clear q16
                                                  try clear hx16
                                                  try clear p17
                                                  try clear q17
                                                  try clear hx17
                                                  try clear c18
                                                  try clear c18b0
                                                  try clear c18b1
                                                  try clear c25
                                                  try clear c25b0
                                                  try clear c28
                                                  try clear c37
                                                  try clear c39
                                                  try clear c39b0
                                                  try clear c40
                                                  try clear c41
                                                  try clear c41b0
                                                  try clear c42
                                                  try clear c44
                                                  try clear c45
                                                  try clear c46
                                                  try clear c47
                                                  try clear c47b0
                                                  try clear c54
                                                  try clear c54b0
                                                  try clear c54b1
                                                  try clear c56
                                                  try clear c56b0
                                                  try clear c56b1
                                                  try clear c57
                                                  try clear c57b0
                                                  try clear c57b1
                                                  try clear c58
                                                  try clear c62
                                                  try clear c62b0
                                                  try clear c63
                                                  try clear c63b0
                                                  try clear p64
                                                  try clear c68
                                                  try clear c69
                                                  try clear c69b0
                                                  try clear c69b1
                                                  try clear c70
                                                  try clear c70b0
                                                  try clear c70b1
                                                  try clear hcz12_0
                                                  try clear hcz12_1
                                                  try clear hcz12_2
                                                  try clear hcz12_3
                                                  try clear hcz12_4
                                                  try clear hcz12_5
                                                  try clear hcz12_6
                                                  try clear hcz12_7
                                                  try clear hcz13_0
                                                  try clear hcz13_1
                                                  try clear hcz13_2
                                                  try clear hcz13_3
                                                  try clear hcz13_4
                                                  try clear hcz13_5
                                                  try clear hcz13_6
                                                  try clear hcz13_7
                                                  try clear hcz19_0
                                                  try clear hcz19_1
                                                  try clear hcz19_2
                                                  try clear hcz19_3
                                                  try clear hcz19_4
                                                  try clear hcz19_5
                                                  try clear hcz19_6
                                                  try clear hcz19_7
                                                  try clear hcz22_0
                                                  try clear hcz22_1
                                                  try clear hcz22_2
                                                  try clear hcz22_3
                                                  try clear hcz22_4
                                                  try clear hcz22_5
                                                  try clear hcz22_6
                                                  try clear hcz22_7
                                                  try clear hcz59_0
                                                  try clear hcz59_1
                                                  try clear hcz59_2
                                                  try clear hcz59_3
                                                  try clear hcz59_4
                                                  try clear hcz59_5
                                                  try clear hcz59_6
                                                  try clear hcz59_7
                                                  try clear hcz5_0
                                                  try clear hcz5_1
                                                  try clear hcz5_2
                                                  try clear hcz5_3
                                                  try clear hcz5_4
                                                  try clear hcz5_5
                                                  try clear hcz5_6
                                                  try clear hcz5_7
                                                  try clear hcz8_0
                                                  try clear hcz8_1
                                                  try clear hcz8_2
                                                  try clear hcz8_3
                                                  try clear hcz8_4
                                                  try clear hcz8_5
                                                  try clear hcz8_6
                                                  try clear hcz8_7
                                                  try clear hfz12_0
                                                  try clear hfz12_1
                                                  try clear hfz12_2
                                                  try clear hfz12_3
                                                  try clear hfz12_4
                                                  try clear hfz12_5
                                                  try clear hfz12_6
                                                  try clear hfz12_7
                                                  try clear hfz13_0
                                                  try clear hfz13_1
                                                  try clear hfz13_2
                                                  try clear hfz13_3
                                                  try clear hfz13_4
                                                  try clear hfz13_5
                                                  try clear hfz13_6
                                                  try clear hfz13_7
                                                  try clear hfz19_0
                                                  try clear hfz19_1
                                                  try clear hfz19_2
                                                  try clear hfz19_3
                                                  try clear hfz19_4
                                                  try clear hfz19_5
                                                  try clear hfz19_6
                                                  try clear hfz19_7
                                                  try clear hfz22_0
                                                  try clear hfz22_1
                                                  try clear hfz22_2
                                                  try clear hfz22_3
                                                  try clear hfz22_4
                                                  try clear hfz22_5
                                                  try clear hfz22_6
                                                  try clear hfz22_7
                                                  try clear hfz59_0
                                                  try clear hfz59_1
                                                  try clear hfz59_2
                                                  try clear hfz59_3
                                                  try clear hfz59_4
                                                  try clear hfz59_5
                                                  try clear hfz59_6
                                                  try clear hfz59_7
                                                  try clear hfz5_0
                                                  try clear hfz5_1
                                                  try clear hfz5_2
                                                  try clear hfz5_3
                                                  try clear hfz5_4
                                                  try clear hfz5_5
                                                  try clear hfz5_6
                                                  try clear hfz5_7
                                                  try clear hfz8_0
                                                  try clear hfz8_1
                                                  try clear hfz8_2
                                                  try clear hfz8_3
                                                  try clear hfz8_4
                                                  try clear hfz8_5
                                                  try clear hfz8_6
                                                  try clear hfz8_7
                                                  try clear hx147_0
                                                  try clear hx165_0
                                                  try clear hx169_0
                                                  try clear hx170_0
                                                  try clear hx171_0
                                                  try clear p1
                                                  try clear p14
                                                  try clear p147
                                                  try clear p165
                                                  try clear p169
                                                  try clear p170
                                                  try clear p171
                                                  try clear p2
                                                  try clear p6
                                                  try clear q1
                                                  try clear q14
                                                  try clear q147
                                                  try clear q165
                                                  try clear q169
                                                  try clear q170
                                                  try clear q171
                                                  obtain ⟨kq, x161_64, rfl, HA, HJ64, HO_5, HO_18, BK144, HB⟩ := hcut
                                                  cases kq with
                                                  | zero => exact absurd HA.out (by simp [quilllaw14_PairsMates.j7])
                                                  | succ kj64 =>
                                                    have H := HA.out
                                                    clear HA
                                                    simp only [quilllaw14_PairsMates.j7] at H
                                                    by_cases c71 : x161_64 = true
                                                    · subst c71
                                                      have H1 : (if 0 ≤ x19_7 then (if x19_7 < (y162.length : Int) then ((quillref12_Around.f kj64 t148 x6_3 (rd y162 x19_7) (wrap64 (1 + (Int.tmod (wrap64 ((wrap64 (x6_3 + x19_7)) + 2)) 2)))).bind fun bt173 => (if bt173.1 ≥ 0 then ((quilllaw14_num.f t168).bind fun t175 => (if t175 = 0 then (if t166 = bt173.1 then (if t167 = bt173.2 then (quilllaw14_PairsMates.l2 kj64 x3_1 (rdOf ByteArray.empty l0_0 x3_1) t148 x6_3 x7_25 y162 (wrap64 (x19_7 + 1)) l0_0 a0_1 a0_2 a0_3 a0_4 a0_5 a0_6 a0_7) else (some false)) else (some false)) else (some false))) else ((quilllaw14_num.f t168).bind fun t176 => (if t176 = 6 then (if t166 = 0 then (if t167 = 0 then (quilllaw14_PairsMates.l2 kj64 x3_1 (rdOf ByteArray.empty l0_0 x3_1) t148 x6_3 x7_25 y162 (wrap64 (x19_7 + 1)) l0_0 a0_1 a0_2 a0_3 a0_4 a0_5 a0_6 a0_7) else (some false)) else (some false)) else (some false))))) else (none)) else (none)) = some r := by rw [if_pos rfl] at H; exact H
                                                      clear H
                                                      have H := H1
                                                      clear H1
                                                      by_cases c72 : 0 ≤ x19_7
                                                      · rw [if_pos c72] at H
                                                        have c72b0 : decide (0 ≤ x19_7) = true := decide_eq_true c72
                                                        clear c72
                                                        by_cases c73 : x19_7 < (y162.length : Int)
                                                        · rw [if_pos c73] at H
                                                          have c73b0 : decide (x19_7 < (y162.length : Int)) = true := decide_eq_true c73
                                                          clear c73
                                                          replace H := Option.bind_eq_some_iff.mp H
                                                          obtain ⟨⟨t173, t174⟩, A740, H⟩ := H
                                                          replace H : (if t173 ≥ 0 then ((quilllaw14_num.f t168).bind fun t175 => (if t175 = 0 then (if t166 = t173 then (if t167 = t174 then (quilllaw14_PairsMates.l2 kj64 x3_1 (rdOf ByteArray.empty l0_0 x3_1) t148 x6_3 x7_25 y162 (wrap64 (x19_7 + 1)) l0_0 a0_1 a0_2 a0_3 a0_4 a0_5 a0_6 a0_7) else (some false)) else (some false)) else (some false))) else ((quilllaw14_num.f t168).bind fun t176 => (if t176 = 6 then (if t166 = 0 then (if t167 = 0 then (quilllaw14_PairsMates.l2 kj64 x3_1 (rdOf ByteArray.empty l0_0 x3_1) t148 x6_3 x7_25 y162 (wrap64 (x19_7 + 1)) l0_0 a0_1 a0_2 a0_3 a0_4 a0_5 a0_6 a0_7) else (some false)) else (some false)) else (some false)))) = some r := H
                                                          have A74 := Aside0.mk A740
                                                          clear A740
                                                          by_cases c75 : t173 ≥ 0
                                                          · rw [if_pos c75] at H
                                                            have c75b0 : decide (0 ≤ t173) = true := decide_eq_true c75
                                                            clear c75
                                                            replace H := Option.bind_eq_some_iff.mp H
                                                            obtain ⟨t175, A760, H⟩ := H
                                                            replace H : (if t175 = 0 then (if t166 = t173 then (if t167 = t174 then (quilllaw14_PairsMates.l2 kj64 x3_1 (rdOf ByteArray.empty l0_0 x3_1) t148 x6_3 x7_25 y162 (wrap64 (x19_7 + 1)) l0_0 a0_1 a0_2 a0_3 a0_4 a0_5 a0_6 a0_7) else (some false)) else (some false)) else (some false)) = some r := H
                                                            have A76 := Aside0.mk A760
                                                            clear A760
                                                            by_cases c77 : t175 = 0
                                                            · rw [if_pos c77] at H
                                                              have c77b0 : (t175 == 0) = true := beq_iff_eq.mpr c77
                                                              have c77b1 : (t175 != 0) = false := bne_eq_false_iff_eq.mpr c77
                                                              clear c77
                                                              by_cases c78 : t166 = t173
                                                              · rw [if_pos c78] at H
                                                                have c78s := Aside0.mk c78
                                                                have c78b0 : (t166 == t173) = true := beq_iff_eq.mpr c78
                                                                have c78b1 : (t166 != t173) = false := bne_eq_false_iff_eq.mpr c78
                                                                clear c78
                                                                by_cases c79 : t167 = t174
                                                                · rw [if_pos c79] at H
                                                                  have c79s := Aside0.mk c79
                                                                  have c79b0 : (t167 == t174) = true := beq_iff_eq.mpr c79
                                                                  have c79b1 : (t167 != t174) = false := bne_eq_false_iff_eq.mpr c79
                                                                  clear c79
                                                                  have H' := Aside0.mk H
                                                                  clear H
                                                                  have p172 : 0 ≤ (x19_7 : Int) := of_decide_eq_true (by first | (with_reducible assumption) | assumption)
                                                                  have q172 : x19_7 < (y162.length : Int) := of_decide_eq_true (by first | (with_reducible assumption) | assumption)
                                                                  obtain ⟨ad172, e172, hx172_0⟩ := Kd.at_int (Kd.R_reads' HO_18.out).2.2 x19_7 p172 q172
                                                                  obtain rfl : ad165 = ad172 := (by injection e172)
                                                                  replace p172 := eq_true p172
                                                                  replace q172 := eq_true q172
                                                                  go_wp2_with (first | ((with_reducible refine gate_callee (f := 47) rfl ?_); refine goesL_ (some 170) rfl rfl Tryd.func47 (by as_aux_lemma => kernel_rfl) rfl #[.slice Ao24 t148.length co24, .int .i64 x6_3, .int .i64 (rd y162 x19_7), .int .i64 (wrap64 (1 + (Int.tmod (wrap64 ((wrap64 (x6_3 + x19_7)) + 2)) 2)))] rfl (by (try simp only [List.map_toArray, List.map_cons, List.map_nil]); first | done | rfl | (simp only [List.length_drop, List.length_take]; rfl)) ?_; (with_reducible refine (quillref12_Around.calls kj64 _ _ t148 x6_3 (rd y162 x19_7) (wrap64 (1 + (Int.tmod (wrap64 ((wrap64 (x6_3 + x19_7)) + 2)) 2))) t173 t174 _ ?side1 ?side2 A74.out).mono ?_); (case side1 => repeat (first | exact (Kd.R_reads' HO_5.out).2.2 | (with_reducible refine Kd.C_alloc ?_ _) | (with_reducible refine Kd.C_drewN ?_ _) | (with_reducible refine Kd.C_drew ?_))); (case side2 => exact (Kd.R_reads' HO_5.out).2.1); rintro e w80 ⟨rfl, hb⟩; refine ⟨_, rfl, ?_⟩; have n0_ := Aside0.mk (Kd.R_below (by (with_reducible repeat (first | apply Kd.R_alloc | apply Kd.R_drewN | apply Kd.R_drew)); exact HO_5.out) hb); have n1_ := Aside0.mk (Kd.R_below (by (with_reducible repeat (first | apply Kd.R_alloc | apply Kd.R_drewN | apply Kd.R_drew)); exact HO_18.out) hb); have n2_ := Aside0.mk (blk_below (g := gb144) (o := .cells #[.slice (some ad147) l0_0.length c0_0, .int .i64 a0_1, .int .i64 a0_2, .int .i64 a0_3, .int .i64 a0_4, .int .i64 a0_5, .int .i64 a0_6, .int .i64 a0_7] 50 (0, 0)) (by (with_reducible repeat (first | refine blk_drewN ?_ _ | refine blk_drew ?_ | refine blk_alloc ?_ _)); exact BK144.out) hb); have n3_ := Aside0.mk (below_step (by repeat (first | (with_reducible first | exact HB.out | apply below_alloc | apply pw_below_drewN | apply below_drew1 | refine below_set ?_ GE144.out) | exact HB.out)) hb); clear HO_5; clear HO_18; clear BK144; clear HB; have HO_5 := n0_; have HO_18 := n1_; have BK144 := n2_; have HB := n3_; clear n0_ n1_ n2_ n3_; (try clear hb); (try clear hb2); (try clear hk); (try clear hi)) | ((with_reducible refine gate_callee (f := 41) rfl ?_); refine goesL_ (some 178) rfl rfl Tryd.func41 (by as_aux_lemma => kernel_rfl) rfl #[.int .i64 t168] rfl (by (try simp only [List.map_toArray, List.map_cons, List.map_nil]); first | done | rfl | (simp only [List.length_drop, List.length_take]; rfl)) ?_; (with_reducible refine (quilllaw14_num.calls t168 t175 _ A76.out).mono ?_); rintro e w' ⟨rfl, ⟨nd, rfl⟩⟩; refine ⟨_, rfl, ?_⟩))
                                                                  go_roundg kj64
                                                                  case measure => have := HK1.out; have := HJ9.out; have := HK3.out; have := HJ25.out; have := HJ33.out; have := HJ51.out; have := HK7.out; have := HJ64.out; omega
                                                                  case rel => exact ⟨(wrap64 (x19_7 + 1)), (by first | rfl | (simp; done) | (simp [*]; done)), H', ⟨by have := HK1.out; have := HJ9.out; have := HK3.out; have := HJ25.out; have := HJ33.out; have := HJ51.out; have := HK7.out; have := HJ64.out; omega⟩, ⟨by (with_reducible repeat (first | apply Kd.R_alloc | apply Kd.R_drewN | apply Kd.R_drew)); exact HO_5.out⟩, ⟨by (with_reducible repeat (first | apply Kd.R_alloc | apply Kd.R_drewN | apply Kd.R_drew)); exact HO_18.out⟩, ⟨by (with_reducible repeat (first | refine blk_drewN ?_ _ | refine blk_drew ?_ | refine blk_alloc ?_ _)); exact BK144.out⟩, ⟨by repeat (first | (with_reducible first | exact HB.out | apply below_alloc | apply pw_below_drewN | apply below_drew1 | refine below_set ?_ GE144.out) | exact HB.out)⟩⟩
                                                                · rw [if_neg c79] at H
                                                                  have c79b0 : (t167 == t174) = false := beq_eq_false_iff_ne.mpr c79
                                                                  have c79b1 : (t167 != t174) = true := bne_iff_ne.mpr c79
                                                                  exact absurd (H.trans (congrArg some HRT.out)) (by decide)
                                                              · rw [if_neg c78] at H
                                                                have c78b0 : (t166 == t173) = false := beq_eq_false_iff_ne.mpr c78
                                                                have c78b1 : (t166 != t173) = true := bne_iff_ne.mpr c78
                                                                exact absurd (H.trans (congrArg some HRT.out)) (by decide)
                                                            · rw [if_neg c77] at H
                                                              have c77b0 : (t175 == 0) = false := beq_eq_false_iff_ne.mpr c77
                                                              have c77b1 : (t175 != 0) = true := bne_iff_ne.mpr c77
                                                              exact absurd (H.trans (congrArg some HRT.out)) (by decide)
                                                          · rw [if_neg c75] at H
                                                            have c75b0 : decide (0 ≤ t173) = false := decide_eq_false c75
                                                            clear c75
                                                            replace H := Option.bind_eq_some_iff.mp H
                                                            obtain ⟨t176, A810, H⟩ := H
                                                            replace H : (if t176 = 6 then (if t166 = 0 then (if t167 = 0 then (quilllaw14_PairsMates.l2 kj64 x3_1 (rdOf ByteArray.empty l0_0 x3_1) t148 x6_3 x7_25 y162 (wrap64 (x19_7 + 1)) l0_0 a0_1 a0_2 a0_3 a0_4 a0_5 a0_6 a0_7) else (some false)) else (some false)) else (some false)) = some r := H
                                                            have A81 := Aside0.mk A810
                                                            clear A810
                                                            by_cases c82 : t176 = 6
                                                            · rw [if_pos c82] at H
                                                              have c82b0 : (t176 == 6) = true := beq_iff_eq.mpr c82
                                                              have c82b1 : (t176 != 6) = false := bne_eq_false_iff_eq.mpr c82
                                                              clear c82
                                                              by_cases c83 : t166 = 0
                                                              · rw [if_pos c83] at H
                                                                have c83b0 : (t166 == 0) = true := beq_iff_eq.mpr c83
                                                                have c83b1 : (t166 != 0) = false := bne_eq_false_iff_eq.mpr c83
                                                                clear c83
                                                                by_cases c84 : t167 = 0
                                                                · rw [if_pos c84] at H
                                                                  have c84b0 : (t167 == 0) = true := beq_iff_eq.mpr c84
                                                                  have c84b1 : (t167 != 0) = false := bne_eq_false_iff_eq.mpr c84
                                                                  clear c84
                                                                  have H' := Aside0.mk H
                                                                  clear H
                                                                  have p172 : 0 ≤ (x19_7 : Int) := of_decide_eq_true (by first | (with_reducible assumption) | assumption)
                                                                  have q172 : x19_7 < (y162.length : Int) := of_decide_eq_true (by first | (with_reducible assumption) | assumption)
                                                                  obtain ⟨ad172, e172, hx172_0⟩ := Kd.at_int (Kd.R_reads' HO_18.out).2.2 x19_7 p172 q172
                                                                  obtain rfl : ad165 = ad172 := (by injection e172)
                                                                  replace p172 := eq_true p172
                                                                  replace q172 := eq_true q172
                                                                  go_wp2_with (first | ((with_reducible refine gate_callee (f := 47) rfl ?_); refine goesL_ (some 170) rfl rfl Tryd.func47 (by as_aux_lemma => kernel_rfl) rfl #[.slice Ao24 t148.length co24, .int .i64 x6_3, .int .i64 (rd y162 x19_7), .int .i64 (wrap64 (1 + (Int.tmod (wrap64 ((wrap64 (x6_3 + x19_7)) + 2)) 2)))] rfl (by (try simp only [List.map_toArray, List.map_cons, List.map_nil]); first | done | rfl | (simp only [List.length_drop, List.length_take]; rfl)) ?_; (with_reducible refine (quillref12_Around.calls kj64 _ _ t148 x6_3 (rd y162 x19_7) (wrap64 (1 + (Int.tmod (wrap64 ((wrap64 (x6_3 + x19_7)) + 2)) 2))) t173 t174 _ ?side1 ?side2 A74.out).mono ?_); (case side1 => repeat (first | exact (Kd.R_reads' HO_5.out).2.2 | (with_reducible refine Kd.C_alloc ?_ _) | (with_reducible refine Kd.C_drewN ?_ _) | (with_reducible refine Kd.C_drew ?_))); (case side2 => exact (Kd.R_reads' HO_5.out).2.1); rintro e w85 ⟨rfl, hb⟩; refine ⟨_, rfl, ?_⟩; have n0_ := Aside0.mk (Kd.R_below (by (with_reducible repeat (first | apply Kd.R_alloc | apply Kd.R_drewN | apply Kd.R_drew)); exact HO_5.out) hb); have n1_ := Aside0.mk (Kd.R_below (by (with_reducible repeat (first | apply Kd.R_alloc | apply Kd.R_drewN | apply Kd.R_drew)); exact HO_18.out) hb); have n2_ := Aside0.mk (blk_below (g := gb144) (o := .cells #[.slice (some ad147) l0_0.length c0_0, .int .i64 a0_1, .int .i64 a0_2, .int .i64 a0_3, .int .i64 a0_4, .int .i64 a0_5, .int .i64 a0_6, .int .i64 a0_7] 50 (0, 0)) (by (with_reducible repeat (first | refine blk_drewN ?_ _ | refine blk_drew ?_ | refine blk_alloc ?_ _)); exact BK144.out) hb); have n3_ := Aside0.mk (below_step (by repeat (first | (with_reducible first | exact HB.out | apply below_alloc | apply pw_below_drewN | apply below_drew1 | refine below_set ?_ GE144.out) | exact HB.out)) hb); clear HO_5; clear HO_18; clear BK144; clear HB; have HO_5 := n0_; have HO_18 := n1_; have BK144 := n2_; have HB := n3_; clear n0_ n1_ n2_ n3_; (try clear hb); (try clear hb2); (try clear hk); (try clear hi)) | ((with_reducible refine gate_callee (f := 41) rfl ?_); refine goesL_ (some 178) rfl rfl Tryd.func41 (by as_aux_lemma => kernel_rfl) rfl #[.int .i64 t168] rfl (by (try simp only [List.map_toArray, List.map_cons, List.map_nil]); first | done | rfl | (simp only [List.length_drop, List.length_take]; rfl)) ?_; (with_reducible refine (quilllaw14_num.calls t168 t176 _ A81.out).mono ?_); rintro e w' ⟨rfl, ⟨nd, rfl⟩⟩; refine ⟨_, rfl, ?_⟩))
                                                                  go_roundg kj64
                                                                  case measure => have := HK1.out; have := HJ9.out; have := HK3.out; have := HJ25.out; have := HJ33.out; have := HJ51.out; have := HK7.out; have := HJ64.out; omega
                                                                  case rel => exact ⟨(wrap64 (x19_7 + 1)), (by first | rfl | (simp; done) | (simp [*]; done)), H', ⟨by have := HK1.out; have := HJ9.out; have := HK3.out; have := HJ25.out; have := HJ33.out; have := HJ51.out; have := HK7.out; have := HJ64.out; omega⟩, ⟨by (with_reducible repeat (first | apply Kd.R_alloc | apply Kd.R_drewN | apply Kd.R_drew)); exact HO_5.out⟩, ⟨by (with_reducible repeat (first | apply Kd.R_alloc | apply Kd.R_drewN | apply Kd.R_drew)); exact HO_18.out⟩, ⟨by (with_reducible repeat (first | refine blk_drewN ?_ _ | refine blk_drew ?_ | refine blk_alloc ?_ _)); exact BK144.out⟩, ⟨by repeat (first | (with_reducible first | exact HB.out | apply below_alloc | apply pw_below_drewN | apply below_drew1 | refine below_set ?_ GE144.out) | exact HB.out)⟩⟩
                                                                · rw [if_neg c84] at H
                                                                  have c84b0 : (t167 == 0) = false := beq_eq_false_iff_ne.mpr c84
                                                                  have c84b1 : (t167 != 0) = true := bne_iff_ne.mpr c84
                                                                  exact absurd (H.trans (congrArg some HRT.out)) (by decide)
                                                              · rw [if_neg c83] at H
                                                                have c83b0 : (t166 == 0) = false := beq_eq_false_iff_ne.mpr c83
                                                                have c83b1 : (t166 != 0) = true := bne_iff_ne.mpr c83
                                                                exact absurd (H.trans (congrArg some HRT.out)) (by decide)
                                                            · rw [if_neg c82] at H
                                                              have c82b0 : (t176 == 6) = false := beq_eq_false_iff_ne.mpr c82
                                                              have c82b1 : (t176 != 6) = true := bne_iff_ne.mpr c82
                                                              exact absurd (H.trans (congrArg some HRT.out)) (by decide)
                                                        · rw [if_neg c73] at H
                                                          exact absurd H (by simp)
                                                      · rw [if_neg c72] at H
                                                        exact absurd H (by simp)
                                                    · replace c71 := Bool.eq_false_iff.mpr c71
                                                      subst c71
                                                      have H1 : ((quilllaw14_num.f t168).bind fun t177 => (if t177 = 1 then (if t166 = 0 then (if t167 = 0 then (quilllaw14_PairsMates.l2 kj64 x3_1 (rdOf ByteArray.empty l0_0 x3_1) t148 x6_3 x7_25 y162 (wrap64 (x19_7 + 1)) l0_0 a0_1 a0_2 a0_3 a0_4 a0_5 a0_6 a0_7) else (some false)) else (some false)) else (some false))) = some r := by rw [if_neg (show ¬ (false = true) by decide)] at H; exact H
                                                      clear H
                                                      have H := H1
                                                      clear H1
                                                      replace H := Option.bind_eq_some_iff.mp H
                                                      obtain ⟨t177, A860, H⟩ := H
                                                      replace H : (if t177 = 1 then (if t166 = 0 then (if t167 = 0 then (quilllaw14_PairsMates.l2 kj64 x3_1 (rdOf ByteArray.empty l0_0 x3_1) t148 x6_3 x7_25 y162 (wrap64 (x19_7 + 1)) l0_0 a0_1 a0_2 a0_3 a0_4 a0_5 a0_6 a0_7) else (some false)) else (some false)) else (some false)) = some r := H
                                                      have A86 := Aside0.mk A860
                                                      clear A860
                                                      by_cases c87 : t177 = 1
                                                      · rw [if_pos c87] at H
                                                        have c87b0 : (t177 == 1) = true := beq_iff_eq.mpr c87
                                                        have c87b1 : (t177 != 1) = false := bne_eq_false_iff_eq.mpr c87
                                                        clear c87
                                                        by_cases c88 : t166 = 0
                                                        · rw [if_pos c88] at H
                                                          have c88b0 : (t166 == 0) = true := beq_iff_eq.mpr c88
                                                          have c88b1 : (t166 != 0) = false := bne_eq_false_iff_eq.mpr c88
                                                          clear c88
                                                          by_cases c89 : t167 = 0
                                                          · rw [if_pos c89] at H
                                                            have c89b0 : (t167 == 0) = true := beq_iff_eq.mpr c89
                                                            have c89b1 : (t167 != 0) = false := bne_eq_false_iff_eq.mpr c89
                                                            clear c89
                                                            have H' := Aside0.mk H
                                                            clear H
                                                            go_wp2_with (first | ((with_reducible refine gate_callee (f := 41) rfl ?_); refine goesL_ (some 178) rfl rfl Tryd.func41 (by as_aux_lemma => kernel_rfl) rfl #[.int .i64 t168] rfl (by (try simp only [List.map_toArray, List.map_cons, List.map_nil]); first | done | rfl | (simp only [List.length_drop, List.length_take]; rfl)) ?_; (with_reducible refine (quilllaw14_num.calls t168 t177 _ A86.out).mono ?_); rintro e w' ⟨rfl, ⟨nd, rfl⟩⟩; refine ⟨_, rfl, ?_⟩))
                                                            go_roundg kj64
                                                            case measure => have := HK1.out; have := HJ9.out; have := HK3.out; have := HJ25.out; have := HJ33.out; have := HJ51.out; have := HK7.out; have := HJ64.out; omega
                                                            case rel => exact ⟨(wrap64 (x19_7 + 1)), (by first | rfl | (simp; done) | (simp [*]; done)), H', ⟨by have := HK1.out; have := HJ9.out; have := HK3.out; have := HJ25.out; have := HJ33.out; have := HJ51.out; have := HK7.out; have := HJ64.out; omega⟩, ⟨by (with_reducible repeat (first | apply Kd.R_alloc | apply Kd.R_drewN | apply Kd.R_drew)); exact HO_5.out⟩, ⟨by (with_reducible repeat (first | apply Kd.R_alloc | apply Kd.R_drewN | apply Kd.R_drew)); exact HO_18.out⟩, ⟨by (with_reducible repeat (first | refine blk_drewN ?_ _ | refine blk_drew ?_ | refine blk_alloc ?_ _)); exact BK144.out⟩, ⟨by repeat (first | (with_reducible first | exact HB.out | apply below_alloc | apply pw_below_drewN | apply below_drew1 | refine below_set ?_ GE144.out) | exact HB.out)⟩⟩
                                                          · rw [if_neg c89] at H
                                                            have c89b0 : (t167 == 0) = false := beq_eq_false_iff_ne.mpr c89
                                                            have c89b1 : (t167 != 0) = true := bne_iff_ne.mpr c89
                                                            exact absurd (H.trans (congrArg some HRT.out)) (by decide)
                                                        · rw [if_neg c88] at H
                                                          have c88b0 : (t166 == 0) = false := beq_eq_false_iff_ne.mpr c88
                                                          have c88b1 : (t166 != 0) = true := bne_iff_ne.mpr c88
                                                          exact absurd (H.trans (congrArg some HRT.out)) (by decide)
                                                      · rw [if_neg c87] at H
                                                        have c87b0 : (t177 == 1) = false := beq_eq_false_iff_ne.mpr c87
                                                        have c87b1 : (t177 != 1) = true := bne_iff_ne.mpr c87
                                                        exact absurd (H.trans (congrArg some HRT.out)) (by decide)
                                              · rw [if_neg c63] at H
                                                exact absurd H (by simp)
                                            · rw [if_neg c62] at H
                                              have c62b0 : decide (x19_7 < (y162.length : Int)) = false := decide_eq_false c62
                                              clear c62
                                              have H' := Aside0.mk H
                                              clear H
                                              obtain ⟨Ao90, co90, eo90⟩ := Kd.R_slice HO_18.out
                                              subst eo90
                                              go_wp2
                                              go_roundg k7
                                              case measure => have := HK1.out; have := HJ9.out; have := HK3.out; have := HJ25.out; have := HJ33.out; have := HJ51.out; have := HK7.out; omega
                                              case rel => exact ⟨(wrap64 (x6_3 + 1)), (by first | rfl | (simp; done) | (simp [*]; done)), H', ⟨by have := HK1.out; have := HJ9.out; have := HK3.out; have := HJ25.out; have := HJ33.out; have := HJ51.out; have := HK7.out; omega⟩, ⟨by (with_reducible repeat (first | apply Kd.R_alloc | apply Kd.R_drewN | apply Kd.R_drew)); exact HO_5.out⟩, ⟨by (with_reducible repeat (first | refine blk_drewN ?_ _ | refine blk_drew ?_ | refine blk_alloc ?_ _)); exact BK144.out⟩, ⟨by repeat (first | (with_reducible first | exact HB.out | apply below_alloc | apply pw_below_drewN | apply below_drew1 | refine below_set ?_ GE144.out) | exact HB.out)⟩⟩
                        · rw [if_neg c25] at H
                          have c25b0 : decide (x6_3 ≤ (wrap64 ((t148.length : Int) + 1))) = false := decide_eq_false c25
                          clear c25
                          have H' := Aside0.mk H
                          clear H
                          go_wp2
                          go_roundg k3
                          case measure => have := HK1.out; have := HJ9.out; have := HK3.out; omega
                          case rel => exact ⟨(wrap64 (x3_1 + 1)), (by first | rfl | (simp; done) | (simp [*]; done)), H', ⟨by have := HK1.out; have := HJ9.out; have := HK3.out; omega⟩, ⟨by (with_reducible repeat (first | refine blk_drewN ?_ _ | refine blk_drew ?_ | refine blk_alloc ?_ _)); exact BK144.out⟩, ⟨by repeat (first | (with_reducible first | exact HB.out | apply below_alloc | apply pw_below_drewN | apply below_drew1 | refine below_set ?_ GE144.out) | exact HB.out)⟩⟩
                · rw [if_neg c16] at H
                  exact absurd H (by simp)
              · rw [if_neg c15] at H
                exact absurd H (by simp)
            · replace c14 := Bool.eq_false_iff.mpr c14
              subst c14
              have H1 : ((quilllaw14_wakes.f).bind fun t146 => (some t146)) = some r := by rw [if_neg (show ¬ (false = true) by decide)] at H; exact H
              clear H
              have H := H1
              clear H1
              replace H := Option.bind_eq_some_iff.mp H
              obtain ⟨t146, A910, H⟩ := H
              replace H : (some t146) = some r := H
              have A91 := Aside0.mk A910
              clear A910
              obtain rfl := Option.some.inj H
              go_wp2_with (first | ((with_reducible refine gate_callee (f := 43) rfl ?_); refine goesL_ (some 191) rfl rfl Tryd.func43 (by as_aux_lemma => kernel_rfl) rfl #[] rfl (by (try simp only [List.map_toArray, List.map_cons, List.map_nil]); first | done | rfl | (simp only [List.length_drop, List.length_take]; rfl)) ?_; (with_reducible refine (quilllaw14_wakes.calls  t146 _ ?side1 A91.out).mono ?_); (case side1 => repeat (first | exact HT.out | exact T_below HT.out HB.out | (with_reducible refine T_alloc ?_ _) | (with_reducible refine T_drewN ?_ _) | (with_reducible refine T_drew ?_) | exact T_below HT.out (by repeat (first | (with_reducible first | exact HB.out | apply below_alloc | apply pw_below_drewN | apply below_drew1 | refine below_set ?_ GE144.out) | exact HB.out)))); rintro e w92 ⟨rfl, hb⟩; refine ⟨_, rfl, ?_⟩; have n0_ := Aside0.mk (blk_below (g := gb144) (o := .cells #[.slice A0_0 l0_0.length c0_0, .int .i64 a0_1, .int .i64 a0_2, .int .i64 a0_3, .int .i64 a0_4, .int .i64 a0_5, .int .i64 a0_6, .int .i64 a0_7] 50 (0, 0)) (by (with_reducible repeat (first | refine blk_drewN ?_ _ | refine blk_drew ?_ | refine blk_alloc ?_ _)); exact BK144.out) hb); have n1_ := Aside0.mk (below_step (by repeat (first | (with_reducible first | exact HB.out | apply below_alloc | apply pw_below_drewN | apply below_drew1 | refine below_set ?_ GE144.out) | exact HB.out)) hb); clear BK144; clear HB; have BK144 := n0_; have HB := n1_; clear n0_ n1_; (try clear hb); (try clear hb2); (try clear hk); (try clear hi)))
              go_ret
              exact ⟨by first | rfl | (simp [errW_none, errW_some] <;> rfl) | (simp [*, errW_none, errW_some] <;> rfl), by repeat (first | (with_reducible first | exact HB.out | apply below_alloc | apply pw_below_drewN | apply below_drew1 | refine below_set ?_ GE144.out) | exact HB.out)⟩

end Go.Proofs.YtfiapekpeiapbaaDoor.PM
