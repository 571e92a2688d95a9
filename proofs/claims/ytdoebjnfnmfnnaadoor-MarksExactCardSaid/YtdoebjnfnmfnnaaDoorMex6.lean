-- printed by wip/tools/pr.py out of the translation; Lean checks it
import Derived.Test.YtdoebjnfnmfnnaaDoorShort
import Derived.Test.YtdoebjnfnmfnnaaDoorMex0
import Derived.Test.YtdoebjnfnmfnnaaDoorMex2
import Derived.Test.YtdoebjnfnmfnnaaDoorMex3
import Derived.Test.YtdoebjnfnmfnnaaDoorMex4
import Derived.Test.YtdoebjnfnmfnnaaDoorMex5
namespace Go.Proofs.YtdoebjnfnmfnnaaDoor.Me
open Go.Proofs.YtdoebjnfnmfnnaaDoor.F Go.Proofs.YtdoebjnfnmfnnaaDoor.Q Go.RowKit Go.Proofs.YtdoebjnfnmfnnaaDoorW.PrintWords Go.Proofs.YtdoebjnfnmfnnaaDoorW.PrintLast Go.Proofs.YtdoebjnfnmfnnaaDoorW.PrintMore
open Go.Proofs.YtdoebjnfnmfnnaaDoor.Fa (S150 z150 k150 k150_open k150_openM k150_mk k150_mkM rd_T150 at_T150)
attribute [local go_sem] max2_int min2_int max_two min_two max_three min_three max_four min_four   -- for this text's walks alone
set_option linter.unusedVariables false
set_option linter.unusedSimpArgs false

/-! ### quilllaw6_MarksExact: function 7 -/
mutual
def quilllaw6_MarksExact.l0 : Nat → List (S150) → Int → List (S150) → List (S82) → Option (Bool)
 | 0, _, _, _, _ => none
 | k + 1, x3, x4, x176000, x176001 => if x4 < (x176001.length : Int) then (quilllaw6_MarksExact.j1 k x3 x4 (decide (x4 < 10)) x176000 x176001) else (quilllaw6_MarksExact.j1 k x3 x4 false x176000 x176001)
def quilllaw6_MarksExact.j1 : Nat → List (S150) → Int → Bool → List (S150) → List (S82) → Option (Bool)
 | 0, _, _, _, _, _ => none
 | k + 1, x3, x4, x28, x176000, x176001 => if x28 = true then (if 0 ≤ x4 then (if x4 < (x176001.length : Int) then ((quillref0_CopyMarks.f k x3).bind fun t183 => ((quillref6_Marks.f k x3).bind fun t186 => ((marks_Check.f k t183).bind fun t187 => ((quilllaw6_num.f t187).bind fun t188 => (if ((t188 == 0) != t186) = true then (some false) else ((quilllaw0_Within.f ((rd_T82 x176001 x4).f0) 5).bind fun t189 => (if t189 = 0 then (quilllaw6_MarksExact.j2 k x3 x4 t183 t186 1 ([] : List (S150)) t189 (t189 == 0) x176000 x176001 ((rd_T82 x176001 x4).f0) ((rd_T82 x176001 x4).f1) ((rd_T82 x176001 x4).f2) ((rd_T82 x176001 x4).f3.f0) ((rd_T82 x176001 x4).f3.f1) ((rd_T82 x176001 x4).f3.f2)) else (quilllaw6_MarksExact.j2 k x3 x4 t183 t186 1 ([] : List (S150)) t189 (t189 == 1) x176000 x176001 ((rd_T82 x176001 x4).f0) ((rd_T82 x176001 x4).f1) ((rd_T82 x176001 x4).f2) ((rd_T82 x176001 x4).f3.f0) ((rd_T82 x176001 x4).f3.f1) ((rd_T82 x176001 x4).f3.f2))))))))) else (none)) else (none)) else ((quilllaw6_wakes.f).bind fun t180 => (some t180))
def quilllaw6_MarksExact.j4 : Nat → List (S150) → Int → List (S150) → Int → List (S150) → List (S150) → Int → List (S150) → List (S82) → Option (Bool)
 | 0, _, _, _, _, _, _, _, _, _ => none
 | k + 1, x3, x4, x6, x8, x9, x10, x11, x176000, x176001 => (quilllaw6_num.f x11).bind fun t213 => (if t213 = x8 then ((quillref0_EqMarks.f k x9 x10).bind fun t214 => (if t214 = true then ((quillref0_EqMarks.f k x6 x3).bind fun t215 => (quilllaw6_MarksExact.j5 k x3 x4 x6 x8 x9 x10 (!t215) x176000 x176001)) else (quilllaw6_MarksExact.j5 k x3 x4 x6 x8 x9 x10 true x176000 x176001))) else (quilllaw6_MarksExact.j5 k x3 x4 x6 x8 x9 x10 true x176000 x176001))
def quilllaw6_MarksExact.j5 : Nat → List (S150) → Int → List (S150) → Int → List (S150) → List (S150) → Bool → List (S150) → List (S82) → Option (Bool)
 | 0, _, _, _, _, _, _, _, _, _ => none
 | k + 1, x3, x4, x6, x8, x9, x10, x144, x176000, x176001 => if x144 = true then (some false) else ((quilllaw6_spoil.f k x9).bind fun t216 => ((quillref0_EqMarks.f k x6 x3).bind fun t217 => (if t217 = true then (if x8 = 0 then ((quillref0_CopyMarks.f k x10).bind fun t218 => (quilllaw6_MarksExact.l0 k t218 (wrap64 (x4 + 1)) x176000 x176001)) else (quilllaw6_MarksExact.l0 k x3 (wrap64 (x4 + 1)) x176000 x176001)) else (some false))))
def quilllaw6_MarksExact.j2 : Nat → List (S150) → Int → List (S150) → Bool → Int → List (S150) → Int → Bool → List (S150) → List (S82) → Int → Int → Int → Int → Int → ByteArray → Option (Bool)
 | 0, _, _, _, _, _, _, _, _, _, _, _, _, _, _, _, _ => none
 | k + 1, x3, x4, x6, x7, x8, x10, x48, x66, x176000, x176001, x183000, x183001, x183002, x183003, x183004, x183005 => if x66 = true then ((marks_Set.f x6 x183001 x183002).bind fun bt190 => (if x7 = true then ((quillref0_Between.f x183001 97 122).bind fun t194 => (if t194 = true then ((quillref0_Num.f x183002 4000).bind fun t195 => (if t195 = true then ((quillref6_Set.f k x3 x183001 x183002).bind fun t196 => (quilllaw6_MarksExact.j4 k x3 x4 x6 0 bt190.1 t196 bt190.2 x176000 x176001)) else (quilllaw6_MarksExact.j4 k x3 x4 x6 x8 bt190.1 x10 bt190.2 x176000 x176001))) else (quilllaw6_MarksExact.j4 k x3 x4 x6 x8 bt190.1 x10 bt190.2 x176000 x176001))) else (quilllaw6_MarksExact.j4 k x3 x4 x6 x8 bt190.1 x10 bt190.2 x176000 x176001))) else (if x48 = 2 then ((marks_Get.f x6 x183001).bind fun bt199 => (if x7 = true then ((quillref6_Get.f k x3 x183001).bind fun t201 => (if t201 ≥ 0 then ((quillref6_Get.f k x3 x183001).bind fun t202 => (quilllaw6_MarksExact.j3 k x3 x4 x6 0 bt199.1 bt199.2 t202 x176000 x176001)) else (quilllaw6_MarksExact.j3 k x3 x4 x6 3 bt199.1 bt199.2 0 x176000 x176001))) else (quilllaw6_MarksExact.j3 k x3 x4 x6 x8 bt199.1 bt199.2 0 x176000 x176001))) else ((marks_Move.f k x6 x183003 x183004 x183005).bind fun bt205 => (if x7 = true then ((quillref4_Moves.f k x183003 x183004 x183005).bind fun t209 => (if t209 = true then ((quillref6_Move.f k x3 x183003 x183004 x183005).bind fun t210 => (quilllaw6_MarksExact.j4 k x3 x4 x6 0 bt205.1 t210 bt205.2 x176000 x176001)) else (quilllaw6_MarksExact.j4 k x3 x4 x6 x8 bt205.1 x10 bt205.2 x176000 x176001))) else (quilllaw6_MarksExact.j4 k x3 x4 x6 x8 bt205.1 x10 bt205.2 x176000 x176001))))
def quilllaw6_MarksExact.j3 : Nat → List (S150) → Int → List (S150) → Int → Int → Int → Int → List (S150) → List (S82) → Option (Bool)
 | 0, _, _, _, _, _, _, _, _, _ => none
 | k + 1, x3, x4, x6, x8, x12, x13, x14, x176000, x176001 => (quilllaw6_num.f x13).bind fun t203 => (if t203 = x8 then (if x12 = x14 then ((quillref0_EqMarks.f k x6 x3).bind fun t204 => (if t204 = true then (quilllaw6_MarksExact.l0 k x3 (wrap64 (x4 + 1)) x176000 x176001) else (some false))) else (some false)) else (some false))
end
def quilllaw6_MarksExact.f (k : Nat) (l0_0 : List (S150)) (l0_1 : List (S82)) : Option (Bool) := (quilllaw6_Heavy.f k l0_0 l0_1).bind fun t176 => (if t176 = true then (some true) else ((quillref0_CopyMarks.f k l0_0).bind fun t177 => (quilllaw6_MarksExact.l0 k t177 0 l0_0 l0_1)))
theorem quilllaw6_MarksExact.mono_l : ∀ k, (∀ y0 y1 y2 y3, LeO (quilllaw6_MarksExact.l0 k y0 y1 y2 y3) (quilllaw6_MarksExact.l0 (k + 1) y0 y1 y2 y3)) ∧ (∀ y0 y1 y2 y3 y4, LeO (quilllaw6_MarksExact.j1 k y0 y1 y2 y3 y4) (quilllaw6_MarksExact.j1 (k + 1) y0 y1 y2 y3 y4)) ∧ (∀ y0 y1 y2 y3 y4 y5 y6 y7 y8, LeO (quilllaw6_MarksExact.j4 k y0 y1 y2 y3 y4 y5 y6 y7 y8) (quilllaw6_MarksExact.j4 (k + 1) y0 y1 y2 y3 y4 y5 y6 y7 y8)) ∧ (∀ y0 y1 y2 y3 y4 y5 y6 y7 y8, LeO (quilllaw6_MarksExact.j5 k y0 y1 y2 y3 y4 y5 y6 y7 y8) (quilllaw6_MarksExact.j5 (k + 1) y0 y1 y2 y3 y4 y5 y6 y7 y8)) ∧ (∀ y0 y1 y2 y3 y4 y5 y6 y7 y8 y9 y10 y11 y12 y13 y14 y15, LeO (quilllaw6_MarksExact.j2 k y0 y1 y2 y3 y4 y5 y6 y7 y8 y9 y10 y11 y12 y13 y14 y15) (quilllaw6_MarksExact.j2 (k + 1) y0 y1 y2 y3 y4 y5 y6 y7 y8 y9 y10 y11 y12 y13 y14 y15)) ∧ (∀ y0 y1 y2 y3 y4 y5 y6 y7 y8, LeO (quilllaw6_MarksExact.j3 k y0 y1 y2 y3 y4 y5 y6 y7 y8) (quilllaw6_MarksExact.j3 (k + 1) y0 y1 y2 y3 y4 y5 y6 y7 y8))
 | 0 => ⟨fun _ _ _ _ r h => by simp [quilllaw6_MarksExact.l0] at h, fun _ _ _ _ _ r h => by simp [quilllaw6_MarksExact.j1] at h, fun _ _ _ _ _ _ _ _ _ r h => by simp [quilllaw6_MarksExact.j4] at h, fun _ _ _ _ _ _ _ _ _ r h => by simp [quilllaw6_MarksExact.j5] at h, fun _ _ _ _ _ _ _ _ _ _ _ _ _ _ _ _ r h => by simp [quilllaw6_MarksExact.j2] at h, fun _ _ _ _ _ _ _ _ _ r h => by simp [quilllaw6_MarksExact.j3] at h⟩
 | k + 1 => by
  obtain ⟨ih0, ih1, ih2, ih3, ih4, ih5⟩ := quilllaw6_MarksExact.mono_l k
  refine ⟨?_, ?_, ?_, ?_, ?_, ?_⟩
  ·
   intro y0 y1 y2 y3
   unfold quilllaw6_MarksExact.l0
   repeat' first
   | (with_reducible exact ih0 _ _ _ _)
   | (with_reducible exact ih1 _ _ _ _ _)
   | (with_reducible exact ih2 _ _ _ _ _ _ _ _ _)
   | (with_reducible exact ih3 _ _ _ _ _ _ _ _ _)
   | (with_reducible exact ih4 _ _ _ _ _ _ _ _ _ _ _ _ _ _ _ _)
   | (with_reducible exact ih5 _ _ _ _ _ _ _ _ _)
   | (with_reducible exact marks_Check.mono _ _)
   | (with_reducible exact marks_Move.mono _ _ _ _ _)
   | (with_reducible exact quilllaw6_Heavy.mono _ _ _)
   | (with_reducible exact quilllaw6_spoil.mono _ _)
   | (with_reducible exact quillref0_CopyMarks.mono _ _)
   | (with_reducible exact quillref0_EqMarks.mono _ _ _)
   | (with_reducible exact quillref4_Moves.mono _ _ _ _)
   | (with_reducible exact quillref6_Get.mono _ _ _)
   | (with_reducible exact quillref6_Marks.mono _ _)
   | (with_reducible exact quillref6_Move.mono _ _ _ _ _)
   | (with_reducible exact quillref6_Set.mono _ _ _ _)
   | (with_reducible exact LeO.refl _)
   | (with_reducible exact LeO.none _)
   | (with_reducible refine LeO.ite ?_ ?_)
   | (with_reducible refine LeO.bind ?_ (fun _ => ?_))
   | exact ih0 _ _ _ _
   | exact ih1 _ _ _ _ _
   | exact ih2 _ _ _ _ _ _ _ _ _
   | exact ih3 _ _ _ _ _ _ _ _ _
   | exact ih4 _ _ _ _ _ _ _ _ _ _ _ _ _ _ _ _
   | exact ih5 _ _ _ _ _ _ _ _ _
   | exact marks_Check.mono _ _
   | exact marks_Move.mono _ _ _ _ _
   | exact quilllaw6_Heavy.mono _ _ _
   | exact quilllaw6_spoil.mono _ _
   | exact quillref0_CopyMarks.mono _ _
   | exact quillref0_EqMarks.mono _ _ _
   | exact quillref4_Moves.mono _ _ _ _
   | exact quillref6_Get.mono _ _ _
   | exact quillref6_Marks.mono _ _
   | exact quillref6_Move.mono _ _ _ _ _
   | exact quillref6_Set.mono _ _ _ _
   | exact LeO.none _
   | refine LeO.ite ?_ ?_
   | refine LeO.bind ?_ (fun _ => ?_)
  ·
   intro y0 y1 y2 y3 y4
   unfold quilllaw6_MarksExact.j1
   repeat' first
   | (with_reducible exact ih0 _ _ _ _)
   | (with_reducible exact ih1 _ _ _ _ _)
   | (with_reducible exact ih2 _ _ _ _ _ _ _ _ _)
   | (with_reducible exact ih3 _ _ _ _ _ _ _ _ _)
   | (with_reducible exact ih4 _ _ _ _ _ _ _ _ _ _ _ _ _ _ _ _)
   | (with_reducible exact ih5 _ _ _ _ _ _ _ _ _)
   | (with_reducible exact marks_Check.mono _ _)
   | (with_reducible exact marks_Move.mono _ _ _ _ _)
   | (with_reducible exact quilllaw6_Heavy.mono _ _ _)
   | (with_reducible exact quilllaw6_spoil.mono _ _)
   | (with_reducible exact quillref0_CopyMarks.mono _ _)
   | (with_reducible exact quillref0_EqMarks.mono _ _ _)
   | (with_reducible exact quillref4_Moves.mono _ _ _ _)
   | (with_reducible exact quillref6_Get.mono _ _ _)
   | (with_reducible exact quillref6_Marks.mono _ _)
   | (with_reducible exact quillref6_Move.mono _ _ _ _ _)
   | (with_reducible exact quillref6_Set.mono _ _ _ _)
   | (with_reducible exact LeO.refl _)
   | (with_reducible exact LeO.none _)
   | (with_reducible refine LeO.ite ?_ ?_)
   | (with_reducible refine LeO.bind ?_ (fun _ => ?_))
   | exact ih0 _ _ _ _
   | exact ih1 _ _ _ _ _
   | exact ih2 _ _ _ _ _ _ _ _ _
   | exact ih3 _ _ _ _ _ _ _ _ _
   | exact ih4 _ _ _ _ _ _ _ _ _ _ _ _ _ _ _ _
   | exact ih5 _ _ _ _ _ _ _ _ _
   | exact marks_Check.mono _ _
   | exact marks_Move.mono _ _ _ _ _
   | exact quilllaw6_Heavy.mono _ _ _
   | exact quilllaw6_spoil.mono _ _
   | exact quillref0_CopyMarks.mono _ _
   | exact quillref0_EqMarks.mono _ _ _
   | exact quillref4_Moves.mono _ _ _ _
   | exact quillref6_Get.mono _ _ _
   | exact quillref6_Marks.mono _ _
   | exact quillref6_Move.mono _ _ _ _ _
   | exact quillref6_Set.mono _ _ _ _
   | exact LeO.none _
   | refine LeO.ite ?_ ?_
   | refine LeO.bind ?_ (fun _ => ?_)
  ·
   intro y0 y1 y2 y3 y4 y5 y6 y7 y8
   unfold quilllaw6_MarksExact.j4
   repeat' first
   | (with_reducible exact ih0 _ _ _ _)
   | (with_reducible exact ih1 _ _ _ _ _)
   | (with_reducible exact ih2 _ _ _ _ _ _ _ _ _)
   | (with_reducible exact ih3 _ _ _ _ _ _ _ _ _)
   | (with_reducible exact ih4 _ _ _ _ _ _ _ _ _ _ _ _ _ _ _ _)
   | (with_reducible exact ih5 _ _ _ _ _ _ _ _ _)
   | (with_reducible exact marks_Check.mono _ _)
   | (with_reducible exact marks_Move.mono _ _ _ _ _)
   | (with_reducible exact quilllaw6_Heavy.mono _ _ _)
   | (with_reducible exact quilllaw6_spoil.mono _ _)
   | (with_reducible exact quillref0_CopyMarks.mono _ _)
   | (with_reducible exact quillref0_EqMarks.mono _ _ _)
   | (with_reducible exact quillref4_Moves.mono _ _ _ _)
   | (with_reducible exact quillref6_Get.mono _ _ _)
   | (with_reducible exact quillref6_Marks.mono _ _)
   | (with_reducible exact quillref6_Move.mono _ _ _ _ _)
   | (with_reducible exact quillref6_Set.mono _ _ _ _)
   | (with_reducible exact LeO.refl _)
   | (with_reducible exact LeO.none _)
   | (with_reducible refine LeO.ite ?_ ?_)
   | (with_reducible refine LeO.bind ?_ (fun _ => ?_))
   | exact ih0 _ _ _ _
   | exact ih1 _ _ _ _ _
   | exact ih2 _ _ _ _ _ _ _ _ _
   | exact ih3 _ _ _ _ _ _ _ _ _
   | exact ih4 _ _ _ _ _ _ _ _ _ _ _ _ _ _ _ _
   | exact ih5 _ _ _ _ _ _ _ _ _
   | exact marks_Check.mono _ _
   | exact marks_Move.mono _ _ _ _ _
   | exact quilllaw6_Heavy.mono _ _ _
   | exact quilllaw6_spoil.mono _ _
   | exact quillref0_CopyMarks.mono _ _
   | exact quillref0_EqMarks.mono _ _ _
   | exact quillref4_Moves.mono _ _ _ _
   | exact quillref6_Get.mono _ _ _
   | exact quillref6_Marks.mono _ _
   | exact quillref6_Move.mono _ _ _ _ _
   | exact quillref6_Set.mono _ _ _ _
   | exact LeO.none _
   | refine LeO.ite ?_ ?_
   | refine LeO.bind ?_ (fun _ => ?_)
  ·
   intro y0 y1 y2 y3 y4 y5 y6 y7 y8
   unfold quilllaw6_MarksExact.j5
   repeat' first
   | (with_reducible exact ih0 _ _ _ _)
   | (with_reducible exact ih1 _ _ _ _ _)
   | (with_reducible exact ih2 _ _ _ _ _ _ _ _ _)
   | (with_reducible exact ih3 _ _ _ _ _ _ _ _ _)
   | (with_reducible exact ih4 _ _ _ _ _ _ _ _ _ _ _ _ _ _ _ _)
   | (with_reducible exact ih5 _ _ _ _ _ _ _ _ _)
   | (with_reducible exact marks_Check.mono _ _)
   | (with_reducible exact marks_Move.mono _ _ _ _ _)
   | (with_reducible exact quilllaw6_Heavy.mono _ _ _)
   | (with_reducible exact quilllaw6_spoil.mono _ _)
   | (with_reducible exact quillref0_CopyMarks.mono _ _)
   | (with_reducible exact quillref0_EqMarks.mono _ _ _)
   | (with_reducible exact quillref4_Moves.mono _ _ _ _)
   | (with_reducible exact quillref6_Get.mono _ _ _)
   | (with_reducible exact quillref6_Marks.mono _ _)
   | (with_reducible exact quillref6_Move.mono _ _ _ _ _)
   | (with_reducible exact quillref6_Set.mono _ _ _ _)
   | (with_reducible exact LeO.refl _)
   | (with_reducible exact LeO.none _)
   | (with_reducible refine LeO.ite ?_ ?_)
   | (with_reducible refine LeO.bind ?_ (fun _ => ?_))
   | exact ih0 _ _ _ _
   | exact ih1 _ _ _ _ _
   | exact ih2 _ _ _ _ _ _ _ _ _
   | exact ih3 _ _ _ _ _ _ _ _ _
   | exact ih4 _ _ _ _ _ _ _ _ _ _ _ _ _ _ _ _
   | exact ih5 _ _ _ _ _ _ _ _ _
   | exact marks_Check.mono _ _
   | exact marks_Move.mono _ _ _ _ _
   | exact quilllaw6_Heavy.mono _ _ _
   | exact quilllaw6_spoil.mono _ _
   | exact quillref0_CopyMarks.mono _ _
   | exact quillref0_EqMarks.mono _ _ _
   | exact quillref4_Moves.mono _ _ _ _
   | exact quillref6_Get.mono _ _ _
   | exact quillref6_Marks.mono _ _
   | exact quillref6_Move.mono _ _ _ _ _
   | exact quillref6_Set.mono _ _ _ _
   | exact LeO.none _
   | refine LeO.ite ?_ ?_
   | refine LeO.bind ?_ (fun _ => ?_)
  ·
   intro y0 y1 y2 y3 y4 y5 y6 y7 y8 y9 y10 y11 y12 y13 y14 y15
   unfold quilllaw6_MarksExact.j2
   repeat' first
   | (with_reducible exact ih0 _ _ _ _)
   | (with_reducible exact ih1 _ _ _ _ _)
   | (with_reducible exact ih2 _ _ _ _ _ _ _ _ _)
   | (with_reducible exact ih3 _ _ _ _ _ _ _ _ _)
   | (with_reducible exact ih4 _ _ _ _ _ _ _ _ _ _ _ _ _ _ _ _)
   | (with_reducible exact ih5 _ _ _ _ _ _ _ _ _)
   | (with_reducible exact marks_Check.mono _ _)
   | (with_reducible exact marks_Move.mono _ _ _ _ _)
   | (with_reducible exact quilllaw6_Heavy.mono _ _ _)
   | (with_reducible exact quilllaw6_spoil.mono _ _)
   | (with_reducible exact quillref0_CopyMarks.mono _ _)
   | (with_reducible exact quillref0_EqMarks.mono _ _ _)
   | (with_reducible exact quillref4_Moves.mono _ _ _ _)
   | (with_reducible exact quillref6_Get.mono _ _ _)
   | (with_reducible exact quillref6_Marks.mono _ _)
   | (with_reducible exact quillref6_Move.mono _ _ _ _ _)
   | (with_reducible exact quillref6_Set.mono _ _ _ _)
   | (with_reducible exact LeO.refl _)
   | (with_reducible exact LeO.none _)
   | (with_reducible refine LeO.ite ?_ ?_)
   | (with_reducible refine LeO.bind ?_ (fun _ => ?_))
   | exact ih0 _ _ _ _
   | exact ih1 _ _ _ _ _
   | exact ih2 _ _ _ _ _ _ _ _ _
   | exact ih3 _ _ _ _ _ _ _ _ _
   | exact ih4 _ _ _ _ _ _ _ _ _ _ _ _ _ _ _ _
   | exact ih5 _ _ _ _ _ _ _ _ _
   | exact marks_Check.mono _ _
   | exact marks_Move.mono _ _ _ _ _
   | exact quilllaw6_Heavy.mono _ _ _
   | exact quilllaw6_spoil.mono _ _
   | exact quillref0_CopyMarks.mono _ _
   | exact quillref0_EqMarks.mono _ _ _
   | exact quillref4_Moves.mono _ _ _ _
   | exact quillref6_Get.mono _ _ _
   | exact quillref6_Marks.mono _ _
   | exact quillref6_Move.mono _ _ _ _ _
   | exact quillref6_Set.mono _ _ _ _
   | exact LeO.none _
   | refine LeO.ite ?_ ?_
   | refine LeO.bind ?_ (fun _ => ?_)
  ·
   intro y0 y1 y2 y3 y4 y5 y6 y7 y8
   unfold quilllaw6_MarksExact.j3
   repeat' first
   | (with_reducible exact ih0 _ _ _ _)
   | (with_reducible exact ih1 _ _ _ _ _)
   | (with_reducible exact ih2 _ _ _ _ _ _ _ _ _)
   | (with_reducible exact ih3 _ _ _ _ _ _ _ _ _)
   | (with_reducible exact ih4 _ _ _ _ _ _ _ _ _ _ _ _ _ _ _ _)
   | (with_reducible exact ih5 _ _ _ _ _ _ _ _ _)
   | (with_reducible exact marks_Check.mono _ _)
   | (with_reducible exact marks_Move.mono _ _ _ _ _)
   | (with_reducible exact quilllaw6_Heavy.mono _ _ _)
   | (with_reducible exact quilllaw6_spoil.mono _ _)
   | (with_reducible exact quillref0_CopyMarks.mono _ _)
   | (with_reducible exact quillref0_EqMarks.mono _ _ _)
   | (with_reducible exact quillref4_Moves.mono _ _ _ _)
   | (with_reducible exact quillref6_Get.mono _ _ _)
   | (with_reducible exact quillref6_Marks.mono _ _)
   | (with_reducible exact quillref6_Move.mono _ _ _ _ _)
   | (with_reducible exact quillref6_Set.mono _ _ _ _)
   | (with_reducible exact LeO.refl _)
   | (with_reducible exact LeO.none _)
   | (with_reducible refine LeO.ite ?_ ?_)
   | (with_reducible refine LeO.bind ?_ (fun _ => ?_))
   | exact ih0 _ _ _ _
   | exact ih1 _ _ _ _ _
   | exact ih2 _ _ _ _ _ _ _ _ _
   | exact ih3 _ _ _ _ _ _ _ _ _
   | exact ih4 _ _ _ _ _ _ _ _ _ _ _ _ _ _ _ _
   | exact ih5 _ _ _ _ _ _ _ _ _
   | exact marks_Check.mono _ _
   | exact marks_Move.mono _ _ _ _ _
   | exact quilllaw6_Heavy.mono _ _ _
   | exact quilllaw6_spoil.mono _ _
   | exact quillref0_CopyMarks.mono _ _
   | exact quillref0_EqMarks.mono _ _ _
   | exact quillref4_Moves.mono _ _ _ _
   | exact quillref6_Get.mono _ _ _
   | exact quillref6_Marks.mono _ _
   | exact quillref6_Move.mono _ _ _ _ _
   | exact quillref6_Set.mono _ _ _ _
   | exact LeO.none _
   | refine LeO.ite ?_ ?_
   | refine LeO.bind ?_ (fun _ => ?_)
theorem quilllaw6_MarksExact.mono : ∀ a0 a1 k, LeO (quilllaw6_MarksExact.f k a0 a1) (quilllaw6_MarksExact.f (k + 1) a0 a1) := by
 intro a0 a1 k
 obtain ⟨ih0, ih1, ih2, ih3, ih4, ih5⟩ := quilllaw6_MarksExact.mono_l k
 unfold quilllaw6_MarksExact.f
 repeat' first
   | (with_reducible exact ih0 _ _ _ _)
   | (with_reducible exact ih1 _ _ _ _ _)
   | (with_reducible exact ih2 _ _ _ _ _ _ _ _ _)
   | (with_reducible exact ih3 _ _ _ _ _ _ _ _ _)
   | (with_reducible exact ih4 _ _ _ _ _ _ _ _ _ _ _ _ _ _ _ _)
   | (with_reducible exact ih5 _ _ _ _ _ _ _ _ _)
   | (with_reducible exact marks_Check.mono _ _)
   | (with_reducible exact marks_Move.mono _ _ _ _ _)
   | (with_reducible exact quilllaw6_Heavy.mono _ _ _)
   | (with_reducible exact quilllaw6_spoil.mono _ _)
   | (with_reducible exact quillref0_CopyMarks.mono _ _)
   | (with_reducible exact quillref0_EqMarks.mono _ _ _)
   | (with_reducible exact quillref4_Moves.mono _ _ _ _)
   | (with_reducible exact quillref6_Get.mono _ _ _)
   | (with_reducible exact quillref6_Marks.mono _ _)
   | (with_reducible exact quillref6_Move.mono _ _ _ _ _)
   | (with_reducible exact quillref6_Set.mono _ _ _ _)
   | (with_reducible exact LeO.refl _)
   | (with_reducible exact LeO.none _)
   | (with_reducible refine LeO.ite ?_ ?_)
   | (with_reducible refine LeO.bind ?_ (fun _ => ?_))
   | exact ih0 _ _ _ _
   | exact ih1 _ _ _ _ _
   | exact ih2 _ _ _ _ _ _ _ _ _
   | exact ih3 _ _ _ _ _ _ _ _ _
   | exact ih4 _ _ _ _ _ _ _ _ _ _ _ _ _ _ _ _
   | exact ih5 _ _ _ _ _ _ _ _ _
   | exact marks_Check.mono _ _
   | exact marks_Move.mono _ _ _ _ _
   | exact quilllaw6_Heavy.mono _ _ _
   | exact quilllaw6_spoil.mono _ _
   | exact quillref0_CopyMarks.mono _ _
   | exact quillref0_EqMarks.mono _ _ _
   | exact quillref4_Moves.mono _ _ _ _
   | exact quillref6_Get.mono _ _ _
   | exact quillref6_Marks.mono _ _
   | exact quillref6_Move.mono _ _ _ _ _
   | exact quillref6_Set.mono _ _ _ _
   | exact LeO.none _
   | refine LeO.ite ?_ ?_
   | refine LeO.bind ?_ (fun _ => ?_)
set_option maxHeartbeats 8000000 in
set_option maxRecDepth 100000 in
theorem quilllaw6_MarksExact.calls (k : Nat) (A0_0 : Option Addr) (c0_0 : Nat) (l0_0 : List (S150)) (A0_1 : Option Addr) (c0_1 : Nat) (l0_1 : List (S82)) (r : Bool) (w : World) (hr0_0 : Kd.C k150 w A0_0 l0_0.length l0_0) (hc0_0 : l0_0.length ≤ c0_0) (hr0_1 : Kd.C k82 w A0_1 l0_1.length l0_1) (hc0_1 : l0_1.length ≤ c0_1) (hT : TabsOk w) (hr_ : r = true) (h : quilllaw6_MarksExact.f k l0_0 l0_1 = some r) :
  Calls Tryd.prog 7 #[.agg #[.slice A0_0 l0_0.length c0_0, .slice A0_1 l0_1.length c0_1]] w fun e w' => e = .returned (.bool r) ∧ Below w.heap.size w w' := by
 have hu76 := Tryd.underlying76
 have hu82 := Tryd.underlying82
 have hu80 := Tryd.underlying80
 have HR0_0 := Aside0.mk hr0_0
 have HC0_0 := Aside0.mk hc0_0
 clear hr0_0 hc0_0
 have HR0_1 := Aside0.mk hr0_1
 have HC0_1 := Aside0.mk hc0_1
 clear hr0_1 hc0_1
 have HT := Aside0.mk hT
 clear hT
 have HRT := Aside0.mk hr_
 clear hr_
 have HB := Aside0.mk (Below.refl w.heap.size w)
 have H : ((quilllaw6_Heavy.f k l0_0 l0_1).bind fun t176 => (if t176 = true then (some true) else ((quillref0_CopyMarks.f k l0_0).bind fun t177 => (quilllaw6_MarksExact.l0 k t177 0 l0_0 l0_1)))) = some r := h
 clear h
 replace H := Option.bind_eq_some_iff.mp H
 obtain ⟨t176, A20, H⟩ := H
 replace H : (if t176 = true then (some true) else ((quillref0_CopyMarks.f k l0_0).bind fun t177 => (quilllaw6_MarksExact.l0 k t177 0 l0_0 l0_1))) = some r := H
 have A2 := Aside0.mk A20
 clear A20
 by_cases c3 : t176 = true
 ·
  subst c3
  have H1 : (some true) = some r := by rw [if_pos rfl] at H; exact H
  clear H
  have H := H1
  clear H1
  obtain rfl := Option.some.inj H
  go_enter Tryd.func7, Tryd.ntmps7
  go_wp2_with (first | ((with_reducible refine gate_dst (N := 1) rfl ?_); refine box_event ?hg (N := 1) ?hd (cs := #[.slice A0_0 l0_0.length c0_0, .slice A0_1 l0_1.length c0_1]) (t := 76) ?hr ?_; (case hd => rfl); (case hg => rfl); (case hr => first | (go_simp; done) | (go_simp; rfl)); intro gb175 hg w4 hbox hb; have n0_ := Aside0.mk (below_step (by repeat (first | (with_reducible first | exact HB.out | apply q7 | apply q8 | apply q9) | exact HB.out)) hb); have n1_ := Aside0.mk (hbox); have n2_ := Aside0.mk ((by rw [hg]; exact (below_size (by repeat (first | (with_reducible first | exact HB.out | apply q7 | apply q8 | apply q9) | exact HB.out))) : w.heap.size ≤ gb175)); have n3_ := Aside0.mk ((by rw [hg]; exact (below_size (by repeat (first | (with_reducible first | exact HB.out | apply q7 | apply q8 | apply q9) | exact HB.out))) : w.heap.size ≤ gb175)); clear HB; have HB := n0_; have BK175 := n1_; have GW175 := n2_; have GE175 := n3_; clear n0_ n1_ n2_ n3_; clear hb hbox hg; have hcz5_0 : w4.cell? ⟨gb175, 0, none⟩ = some (.slice A0_0 l0_0.length c0_0) := (blk_cell BK175.out 0).trans rfl; have hcz5_1 : w4.cell? ⟨gb175, 1, none⟩ = some (.slice A0_1 l0_1.length c0_1) := (blk_cell BK175.out 1).trans rfl; have hfz5_0 := blk_frozen BK175.out 0; have hfz5_1 := blk_frozen BK175.out 1) | ((with_reducible refine gate_callee (f := 45) rfl ?_); refine goesL_ (some 16) rfl rfl Tryd.func45 (by kernel_rfl) rfl #[.agg #[.slice A0_0 l0_0.length c0_0, .slice A0_1 l0_1.length c0_1]] rfl (by (try simp only [List.map_toArray, List.map_cons, List.map_nil]); first | done | rfl | (simp only [List.length_drop, List.length_take]; rfl)) ?_; (with_reducible refine (quilllaw6_Heavy.calls k _ _ l0_0 _ _ l0_1 true _ ?side1 ?side2 ?side3 ?side4 A2.out).mono ?_); (case side1 => repeat (first | exact (Kd.C_below HR0_0.out HB.out) | (with_reducible refine Kd.C_alloc ?_ _) | (with_reducible refine Kd.C_drewN ?_ _) | (with_reducible refine Kd.C_drew ?_))); (case side2 => exact HC0_0.out); (case side3 => repeat (first | exact (Kd.C_below HR0_1.out HB.out) | (with_reducible refine Kd.C_alloc ?_ _) | (with_reducible refine Kd.C_drewN ?_ _) | (with_reducible refine Kd.C_drew ?_))); (case side4 => exact HC0_1.out); rintro e w6 ⟨rfl, hb⟩; refine ⟨_, rfl, ?_⟩; have n0_ := Aside0.mk (blk_below (g := gb175) (o := .cells #[.slice A0_0 l0_0.length c0_0, .slice A0_1 l0_1.length c0_1] 76 (0, 0)) (by (with_reducible repeat (first | refine q4 ?_ _ | refine q5 ?_ | refine q6 ?_ _)); exact BK175.out) hb); have n1_ := Aside0.mk (below_step (by repeat (first | (with_reducible first | exact HB.out | apply q7 | apply q8 | apply q9 | refine below_set ?_ GE175.out) | exact HB.out)) hb); clear BK175; clear HB; have BK175 := n0_; have HB := n1_; clear n0_ n1_; (try clear hb); (try clear hb2); (try clear hk); (try clear hi)))
  go_ret
  exact ⟨by first | rfl | (simp [errW_none, errW_some] <;> rfl) | (simp [*, errW_none, errW_some] <;> rfl), by repeat (first | (with_reducible first | exact HB.out | apply q7 | apply q8 | apply q9 | refine below_set ?_ GE175.out) | exact HB.out)⟩
 ·
  replace c3 := Bool.eq_false_iff.mpr c3
  subst c3
  have H1 : ((quillref0_CopyMarks.f k l0_0).bind fun t177 => (quilllaw6_MarksExact.l0 k t177 0 l0_0 l0_1)) = some r := by rw [if_neg (show ¬ (false = true) by decide)] at H; exact H
  clear H
  have H := H1
  clear H1
  replace H := Option.bind_eq_some_iff.mp H
  obtain ⟨t177, A70, H⟩ := H
  replace H : (quilllaw6_MarksExact.l0 k t177 0 l0_0 l0_1) = some r := H
  have A7 := Aside0.mk A70
  clear A70
  have H' := Aside0.mk H
  clear H
  go_enter Tryd.func7, Tryd.ntmps7
  go_wp2_with (first | ((with_reducible refine gate_dst (N := 1) rfl ?_); refine box_event ?hg (N := 1) ?hd (cs := #[.slice A0_0 l0_0.length c0_0, .slice A0_1 l0_1.length c0_1]) (t := 76) ?hr ?_; (case hd => rfl); (case hg => rfl); (case hr => first | (go_simp; done) | (go_simp; rfl)); intro gb175 hg w8 hbox hb; have n0_ := Aside0.mk (below_step (by repeat (first | (with_reducible first | exact HB.out | apply q7 | apply q8 | apply q9) | exact HB.out)) hb); have n1_ := Aside0.mk (hbox); have n2_ := Aside0.mk ((by rw [hg]; exact (below_size (by repeat (first | (with_reducible first | exact HB.out | apply q7 | apply q8 | apply q9) | exact HB.out))) : w.heap.size ≤ gb175)); have n3_ := Aside0.mk ((by rw [hg]; exact (below_size (by repeat (first | (with_reducible first | exact HB.out | apply q7 | apply q8 | apply q9) | exact HB.out))) : w.heap.size ≤ gb175)); clear HB; have HB := n0_; have BK175 := n1_; have GW175 := n2_; have GE175 := n3_; clear n0_ n1_ n2_ n3_; clear hb hbox hg; have hcz9_0 : w8.cell? ⟨gb175, 0, none⟩ = some (.slice A0_0 l0_0.length c0_0) := (blk_cell BK175.out 0).trans rfl; have hcz9_1 : w8.cell? ⟨gb175, 1, none⟩ = some (.slice A0_1 l0_1.length c0_1) := (blk_cell BK175.out 1).trans rfl; have hfz9_0 := blk_frozen BK175.out 0; have hfz9_1 := blk_frozen BK175.out 1) | ((with_reducible refine gate_callee (f := 45) rfl ?_); refine goesL_ (some 16) rfl rfl Tryd.func45 (by kernel_rfl) rfl #[.agg #[.slice A0_0 l0_0.length c0_0, .slice A0_1 l0_1.length c0_1]] rfl (by (try simp only [List.map_toArray, List.map_cons, List.map_nil]); first | done | rfl | (simp only [List.length_drop, List.length_take]; rfl)) ?_; (with_reducible refine (quilllaw6_Heavy.calls k _ _ l0_0 _ _ l0_1 false _ ?side1 ?side2 ?side3 ?side4 A2.out).mono ?_); (case side1 => repeat (first | exact (Kd.C_below HR0_0.out HB.out) | (with_reducible refine Kd.C_alloc ?_ _) | (with_reducible refine Kd.C_drewN ?_ _) | (with_reducible refine Kd.C_drew ?_))); (case side2 => exact HC0_0.out); (case side3 => repeat (first | exact (Kd.C_below HR0_1.out HB.out) | (with_reducible refine Kd.C_alloc ?_ _) | (with_reducible refine Kd.C_drewN ?_ _) | (with_reducible refine Kd.C_drew ?_))); (case side4 => exact HC0_1.out); rintro e w10 ⟨rfl, hb⟩; refine ⟨_, rfl, ?_⟩; have n0_ := Aside0.mk (blk_below (g := gb175) (o := .cells #[.slice A0_0 l0_0.length c0_0, .slice A0_1 l0_1.length c0_1] 76 (0, 0)) (by (with_reducible repeat (first | refine q4 ?_ _ | refine q5 ?_ | refine q6 ?_ _)); exact BK175.out) hb); have n1_ := Aside0.mk (below_step (by repeat (first | (with_reducible first | exact HB.out | apply q7 | apply q8 | apply q9 | refine below_set ?_ GE175.out) | exact HB.out)) hb); clear BK175; clear HB; have BK175 := n0_; have HB := n1_; clear n0_ n1_; (try clear hb); (try clear hb2); (try clear hk); (try clear hi); have hcz11_0 : w10.cell? ⟨gb175, 0, none⟩ = some (.slice A0_0 l0_0.length c0_0) := (blk_cell BK175.out 0).trans rfl; have hcz11_1 : w10.cell? ⟨gb175, 1, none⟩ = some (.slice A0_1 l0_1.length c0_1) := (blk_cell BK175.out 1).trans rfl; have hfz11_0 := blk_frozen BK175.out 0; have hfz11_1 := blk_frozen BK175.out 1) | ((with_reducible refine gate_callee (f := 46) rfl ?_); refine goesL_ (some 19) rfl rfl Tryd.func46 (by kernel_rfl) rfl #[.slice A0_0 l0_0.length c0_0] rfl (by (try simp only [List.map_toArray, List.map_cons, List.map_nil]); first | done | rfl | (simp only [List.length_drop, List.length_take]; rfl)) ?_; (with_reducible refine (quillref0_CopyMarks.calls k _ _ l0_0 t177 _ ?side1 ?side2 A7.out).mono ?_); (case side1 => repeat (first | exact (Kd.C_below HR0_0.out HB.out) | (with_reducible refine Kd.C_alloc ?_ _) | (with_reducible refine Kd.C_drewN ?_ _) | (with_reducible refine Kd.C_drew ?_))); (case side2 => exact HC0_0.out); rintro e w12 ⟨v178, rfl, ho0, hb⟩; refine ⟨_, rfl, ?_⟩; have n0_ := Aside0.mk (Kd.R_lower ho0 (below_size (by repeat (first | (with_reducible first | exact HB.out | apply q7 | apply q8 | apply q9 | refine below_set ?_ GE175.out) | exact HB.out)))); have n1_ := Aside0.mk (blk_below (g := gb175) (o := .cells #[.slice A0_0 l0_0.length c0_0, .slice A0_1 l0_1.length c0_1] 76 (0, 0)) (by (with_reducible repeat (first | refine q4 ?_ _ | refine q5 ?_ | refine q6 ?_ _)); exact BK175.out) hb); have n2_ := Aside0.mk (below_step (by repeat (first | (with_reducible first | exact HB.out | apply q7 | apply q8 | apply q9 | refine below_set ?_ GE175.out) | exact HB.out)) hb); clear BK175; clear HB; have HO179 := n0_; have BK175 := n1_; have HB := n2_; clear n0_ n1_ n2_; (try clear hb); (try clear hb2); (try clear hk); (try clear hi); (try clear ho0)))
  go_loopg [3, 4] k (fun kq v3 v4 w' => ∃ (x3_1 : List (S150)) (x4_1 : Int), v4 = .int .i64 x4_1 ∧ Aside0 (quilllaw6_MarksExact.l0 kq x3_1 x4_1 l0_0 l0_1 = some r) ∧ Aside0 (kq ≤ k) ∧ Aside0 (Kd.R k150 150 w' w.heap.size (fun _ => True) v3 x3_1) ∧ Aside0 (w'.heap[gb175]? = some (.cells #[(.slice A0_0 l0_0.length c0_0), (.slice A0_1 l0_1.length c0_1)] 76 (0, 0))) ∧ Aside0 (Below w.heap.size w w'))
  case atStart => exact ⟨(t177), (0), (by first | rfl | (simp; done) | (simp [*]; done)), H', ⟨Nat.le_refl _⟩, ⟨by (with_reducible repeat (first | apply qa | apply qc | apply qb)); exact HO179.out⟩, ⟨by (with_reducible repeat (first | refine q4 ?_ _ | refine q5 ?_ | refine q6 ?_ _)); exact BK175.out⟩, ⟨by repeat (first | (with_reducible first | exact HB.out | apply q7 | apply q8 | apply q9 | refine below_set ?_ GE175.out) | exact HB.out)⟩⟩
  case round =>
   clear H'
   try clear p2
   try clear c3
   try clear c4
   try clear c7
   try clear hcz11_0
   try clear hcz11_1
   try clear hcz5_0
   try clear hcz5_1
   try clear hcz9_0
   try clear hcz9_1
   try clear hfz11_0
   try clear hfz11_1
   try clear hfz5_0
   try clear hfz5_1
   try clear hfz9_0
   try clear hfz9_1
   obtain ⟨x3_1, x4_1, rfl, HA, HK1, HO_3, BK175, HB⟩ := hrel
   cases gk with
   | zero => exact absurd HA.out (by simp [quilllaw6_MarksExact.l0])
   | succ k1 =>
    have H := HA.out
    clear HA
    simp only [quilllaw6_MarksExact.l0] at H
    have HC13 := Aside0.mk H
    clear H
    go_upto_region 5 with (fail)
    go_cut [28] (fun v28 wc => ∃ (kq : Nat) (x28_12 : Bool), v28 = .bool x28_12 ∧ Aside0 (quilllaw6_MarksExact.j1 kq x3_1 x4_1 x28_12 l0_0 l0_1 = some r) ∧ Aside0 (kq ≤ k1) ∧ Aside0 (Kd.R k150 150 wc w.heap.size (fun _ => True) u3 x3_1) ∧ Aside0 (wc.heap[gb175]? = some (.cells #[(.slice A0_0 l0_0.length c0_0), (.slice A0_1 l0_1.length c0_1)] 76 (0, 0))) ∧ Aside0 (Below w.heap.size w wc))
    case first =>
     have H := HC13.out
     clear HC13
     by_cases c14 : x4_1 < (l0_1.length : Int)
     ·
      rw [if_pos c14] at H
      have c14b0 : decide (x4_1 < (l0_1.length : Int)) = true := decide_eq_true c14
      clear c14
      (first | rw [c14b0] | (simp only [i64_w, i32_w]; rw [c14b0]) | skip)
      have H' := Aside0.mk H
      clear H
      have hcz15_0 : wr.cell? ⟨gb175, 0, none⟩ = some (.slice A0_0 l0_0.length c0_0) := (blk_cell BK175.out 0).trans rfl
      have hcz15_1 : wr.cell? ⟨gb175, 1, none⟩ = some (.slice A0_1 l0_1.length c0_1) := (blk_cell BK175.out 1).trans rfl
      have hfz15_0 := blk_frozen BK175.out 0
      have hfz15_1 := blk_frozen BK175.out 1
      go_wp2
      go_meet
      case rel => exact ⟨_, (decide (x4_1 < 10)), (by first | rfl | (simp; done) | (simp [*]; done)), H', ⟨by have := HK1.out; first | omega | exact Nat.le_refl _⟩, ⟨by (with_reducible repeat (first | apply qa | apply qc | apply qb)); exact HO_3.out⟩, ⟨by (with_reducible repeat (first | refine q4 ?_ _ | refine q5 ?_ | refine q6 ?_ _)); exact BK175.out⟩, ⟨by repeat (first | (with_reducible first | exact HB.out | apply q7 | apply q8 | apply q9 | refine below_set ?_ GE175.out) | exact HB.out)⟩⟩
     ·
      rw [if_neg c14] at H
      have c14b0 : decide (x4_1 < (l0_1.length : Int)) = false := decide_eq_false c14
      clear c14
      (first | rw [c14b0] | (simp only [i64_w, i32_w]; rw [c14b0]) | skip)
      have H' := Aside0.mk H
      clear H
      have hcz16_0 : wr.cell? ⟨gb175, 0, none⟩ = some (.slice A0_0 l0_0.length c0_0) := (blk_cell BK175.out 0).trans rfl
      have hcz16_1 : wr.cell? ⟨gb175, 1, none⟩ = some (.slice A0_1 l0_1.length c0_1) := (blk_cell BK175.out 1).trans rfl
      have hfz16_0 := blk_frozen BK175.out 0
      have hfz16_1 := blk_frozen BK175.out 1
      go_wp2
      go_meet
      case rel => exact ⟨_, (false), (by first | rfl | (simp; done) | (simp [*]; done)), H', ⟨by have := HK1.out; first | omega | exact Nat.le_refl _⟩, ⟨by (with_reducible repeat (first | apply qa | apply qc | apply qb)); exact HO_3.out⟩, ⟨by (with_reducible repeat (first | refine q4 ?_ _ | refine q5 ?_ | refine q6 ?_ _)); exact BK175.out⟩, ⟨by repeat (first | (with_reducible first | exact HB.out | apply q7 | apply q8 | apply q9 | refine below_set ?_ GE175.out) | exact HB.out)⟩⟩
    case rest =>
     clear HC13
     try clear c1
     try clear p2
     try clear c3
     try clear c4
     try clear c7
     try clear c14
     try clear c14b0
     try clear hcz11_0
     try clear hcz11_1
     try clear hcz15_0
     try clear hcz15_1
     try clear hcz16_0
     try clear hcz16_1
     try clear hcz5_0
     try clear hcz5_1
     try clear hcz9_0
     try clear hcz9_1
     try clear hfz11_0
     try clear hfz11_1
     try clear hfz15_0
     try clear hfz15_1
     try clear hfz16_0
     try clear hfz16_1
     try clear hfz5_0
     try clear hfz5_1
     try clear hfz9_0
     try clear hfz9_1
     try clear p2
     obtain ⟨kq, x28_12, rfl, HA, HJ12, HO_3, BK175, HB⟩ := hcut
     cases kq with
     | zero => exact absurd HA.out (by simp [quilllaw6_MarksExact.j1])
     | succ kj12 =>
      have H := HA.out
      clear HA
      simp only [quilllaw6_MarksExact.j1] at H
      by_cases c17 : x28_12 = true
      ·
       subst c17
       have H1 : (if 0 ≤ x4_1 then (if x4_1 < (l0_1.length : Int) then ((quillref0_CopyMarks.f kj12 x3_1).bind fun t183 => ((quillref6_Marks.f kj12 x3_1).bind fun t186 => ((marks_Check.f kj12 t183).bind fun t187 => ((quilllaw6_num.f t187).bind fun t188 => (if ((t188 == 0) != t186) = true then (some false) else ((quilllaw0_Within.f ((rd_T82 l0_1 x4_1).f0) 5).bind fun t189 => (if t189 = 0 then (quilllaw6_MarksExact.j2 kj12 x3_1 x4_1 t183 t186 1 ([] : List (S150)) t189 (t189 == 0) l0_0 l0_1 ((rd_T82 l0_1 x4_1).f0) ((rd_T82 l0_1 x4_1).f1) ((rd_T82 l0_1 x4_1).f2) ((rd_T82 l0_1 x4_1).f3.f0) ((rd_T82 l0_1 x4_1).f3.f1) ((rd_T82 l0_1 x4_1).f3.f2)) else (quilllaw6_MarksExact.j2 kj12 x3_1 x4_1 t183 t186 1 ([] : List (S150)) t189 (t189 == 1) l0_0 l0_1 ((rd_T82 l0_1 x4_1).f0) ((rd_T82 l0_1 x4_1).f1) ((rd_T82 l0_1 x4_1).f2) ((rd_T82 l0_1 x4_1).f3.f0) ((rd_T82 l0_1 x4_1).f3.f1) ((rd_T82 l0_1 x4_1).f3.f2))))))))) else (none)) else (none)) = some r := by rw [if_pos rfl] at H; exact H
       clear H
       have H := H1
       clear H1
       by_cases c18 : 0 ≤ x4_1
       ·
        rw [if_pos c18] at H
        have c18b0 : decide (0 ≤ x4_1) = true := decide_eq_true c18
        clear c18
        by_cases c19 : x4_1 < (l0_1.length : Int)
        ·
         rw [if_pos c19] at H
         have c19b0 : decide (x4_1 < (l0_1.length : Int)) = true := decide_eq_true c19
         clear c19
         replace H := Option.bind_eq_some_iff.mp H
         obtain ⟨t183, A200, H⟩ := H
         replace H : ((quillref6_Marks.f kj12 x3_1).bind fun t186 => ((marks_Check.f kj12 t183).bind fun t187 => ((quilllaw6_num.f t187).bind fun t188 => (if ((t188 == 0) != t186) = true then (some false) else ((quilllaw0_Within.f ((rd_T82 l0_1 x4_1).f0) 5).bind fun t189 => (if t189 = 0 then (quilllaw6_MarksExact.j2 kj12 x3_1 x4_1 t183 t186 1 ([] : List (S150)) t189 (t189 == 0) l0_0 l0_1 ((rd_T82 l0_1 x4_1).f0) ((rd_T82 l0_1 x4_1).f1) ((rd_T82 l0_1 x4_1).f2) ((rd_T82 l0_1 x4_1).f3.f0) ((rd_T82 l0_1 x4_1).f3.f1) ((rd_T82 l0_1 x4_1).f3.f2)) else (quilllaw6_MarksExact.j2 kj12 x3_1 x4_1 t183 t186 1 ([] : List (S150)) t189 (t189 == 1) l0_0 l0_1 ((rd_T82 l0_1 x4_1).f0) ((rd_T82 l0_1 x4_1).f1) ((rd_T82 l0_1 x4_1).f2) ((rd_T82 l0_1 x4_1).f3.f0) ((rd_T82 l0_1 x4_1).f3.f1) ((rd_T82 l0_1 x4_1).f3.f2)))))))) = some r := H
         have A20 := Aside0.mk A200
         clear A200
         replace H := Option.bind_eq_some_iff.mp H
         obtain ⟨t186, A210, H⟩ := H
         replace H : ((marks_Check.f kj12 t183).bind fun t187 => ((quilllaw6_num.f t187).bind fun t188 => (if ((t188 == 0) != t186) = true then (some false) else ((quilllaw0_Within.f ((rd_T82 l0_1 x4_1).f0) 5).bind fun t189 => (if t189 = 0 then (quilllaw6_MarksExact.j2 kj12 x3_1 x4_1 t183 t186 1 ([] : List (S150)) t189 (t189 == 0) l0_0 l0_1 ((rd_T82 l0_1 x4_1).f0) ((rd_T82 l0_1 x4_1).f1) ((rd_T82 l0_1 x4_1).f2) ((rd_T82 l0_1 x4_1).f3.f0) ((rd_T82 l0_1 x4_1).f3.f1) ((rd_T82 l0_1 x4_1).f3.f2)) else (quilllaw6_MarksExact.j2 kj12 x3_1 x4_1 t183 t186 1 ([] : List (S150)) t189 (t189 == 1) l0_0 l0_1 ((rd_T82 l0_1 x4_1).f0) ((rd_T82 l0_1 x4_1).f1) ((rd_T82 l0_1 x4_1).f2) ((rd_T82 l0_1 x4_1).f3.f0) ((rd_T82 l0_1 x4_1).f3.f1) ((rd_T82 l0_1 x4_1).f3.f2))))))) = some r := H
         have A21 := Aside0.mk A210
         clear A210
         replace H := Option.bind_eq_some_iff.mp H
         obtain ⟨t187, A220, H⟩ := H
         replace H : ((quilllaw6_num.f t187).bind fun t188 => (if ((t188 == 0) != t186) = true then (some false) else ((quilllaw0_Within.f ((rd_T82 l0_1 x4_1).f0) 5).bind fun t189 => (if t189 = 0 then (quilllaw6_MarksExact.j2 kj12 x3_1 x4_1 t183 t186 1 ([] : List (S150)) t189 (t189 == 0) l0_0 l0_1 ((rd_T82 l0_1 x4_1).f0) ((rd_T82 l0_1 x4_1).f1) ((rd_T82 l0_1 x4_1).f2) ((rd_T82 l0_1 x4_1).f3.f0) ((rd_T82 l0_1 x4_1).f3.f1) ((rd_T82 l0_1 x4_1).f3.f2)) else (quilllaw6_MarksExact.j2 kj12 x3_1 x4_1 t183 t186 1 ([] : List (S150)) t189 (t189 == 1) l0_0 l0_1 ((rd_T82 l0_1 x4_1).f0) ((rd_T82 l0_1 x4_1).f1) ((rd_T82 l0_1 x4_1).f2) ((rd_T82 l0_1 x4_1).f3.f0) ((rd_T82 l0_1 x4_1).f3.f1) ((rd_T82 l0_1 x4_1).f3.f2)))))) = some r := H
         have A22 := Aside0.mk A220
         clear A220
         replace H := Option.bind_eq_some_iff.mp H
         obtain ⟨t188, A230, H⟩ := H
         replace H : (if ((t188 == 0) != t186) = true then (some false) else ((quilllaw0_Within.f ((rd_T82 l0_1 x4_1).f0) 5).bind fun t189 => (if t189 = 0 then (quilllaw6_MarksExact.j2 kj12 x3_1 x4_1 t183 t186 1 ([] : List (S150)) t189 (t189 == 0) l0_0 l0_1 ((rd_T82 l0_1 x4_1).f0) ((rd_T82 l0_1 x4_1).f1) ((rd_T82 l0_1 x4_1).f2) ((rd_T82 l0_1 x4_1).f3.f0) ((rd_T82 l0_1 x4_1).f3.f1) ((rd_T82 l0_1 x4_1).f3.f2)) else (quilllaw6_MarksExact.j2 kj12 x3_1 x4_1 t183 t186 1 ([] : List (S150)) t189 (t189 == 1) l0_0 l0_1 ((rd_T82 l0_1 x4_1).f0) ((rd_T82 l0_1 x4_1).f1) ((rd_T82 l0_1 x4_1).f2) ((rd_T82 l0_1 x4_1).f3.f0) ((rd_T82 l0_1 x4_1).f3.f1) ((rd_T82 l0_1 x4_1).f3.f2))))) = some r := H
         have A23 := Aside0.mk A230
         clear A230
         by_cases c24 : ((t188 == 0) != t186) = true
         ·
          rw [if_pos c24] at H
          have c24b0 : ((t188 == 0) != t186) = true := c24
          (try (have c24b1 : decide ((t188 == 0) = t186) = false := by simpa using c24))
          (try (have c24b2 : ((t188 == 0) == t186) = false := by simpa using c24))
          (try (have c24b3 : ¬ ((t188 == 0) = t186) := by simpa using c24))
          clear c24
          exact absurd (H.trans (congrArg some HRT.out)) (by decide)
         ·
          rw [if_neg c24] at H
          have c24b0 : ((t188 == 0) != t186) = false := by simpa using c24
          (try (have c24b1 : decide ((t188 == 0) = t186) = true := by simpa using c24))
          (try (have c24b2 : ((t188 == 0) == t186) = true := by simpa using c24))
          clear c24
          replace H := Option.bind_eq_some_iff.mp H
          obtain ⟨t189, A250, H⟩ := H
          replace H : (if t189 = 0 then (quilllaw6_MarksExact.j2 kj12 x3_1 x4_1 t183 t186 1 ([] : List (S150)) t189 (t189 == 0) l0_0 l0_1 ((rd_T82 l0_1 x4_1).f0) ((rd_T82 l0_1 x4_1).f1) ((rd_T82 l0_1 x4_1).f2) ((rd_T82 l0_1 x4_1).f3.f0) ((rd_T82 l0_1 x4_1).f3.f1) ((rd_T82 l0_1 x4_1).f3.f2)) else (quilllaw6_MarksExact.j2 kj12 x3_1 x4_1 t183 t186 1 ([] : List (S150)) t189 (t189 == 1) l0_0 l0_1 ((rd_T82 l0_1 x4_1).f0) ((rd_T82 l0_1 x4_1).f1) ((rd_T82 l0_1 x4_1).f2) ((rd_T82 l0_1 x4_1).f3.f0) ((rd_T82 l0_1 x4_1).f3.f1) ((rd_T82 l0_1 x4_1).f3.f2))) = some r := H
          have A25 := Aside0.mk A250
          clear A250
          have HC26 := Aside0.mk H
          clear H
          have hcz27_0 : wc.cell? ⟨gb175, 0, none⟩ = some (.slice A0_0 l0_0.length c0_0) := (blk_cell BK175.out 0).trans rfl
          have hcz27_1 : wc.cell? ⟨gb175, 1, none⟩ = some (.slice A0_1 l0_1.length c0_1) := (blk_cell BK175.out 1).trans rfl
          have hfz27_0 := blk_frozen BK175.out 0
          have hfz27_1 := blk_frozen BK175.out 1
          have p181 : 0 ≤ (x4_1 : Int) := of_decide_eq_true (by first | (with_reducible assumption) | assumption)
          have q181 : x4_1 < (l0_1.length : Int) := of_decide_eq_true (by first | (with_reducible assumption) | assumption)
          obtain ⟨ad181, e181, hx181_0, hx181_1, hx181_2, hx181_3, hx181_4, hx181_5⟩ := at_T82 HR0_1.out x4_1 p181 q181
          cases e181
          replace hx181_0 := (HB.out.cell (World.block_lt_of_cell? w _ hx181_0)).trans hx181_0
          replace hx181_1 := (HB.out.cell (World.block_lt_of_cell? w _ hx181_1)).trans hx181_1
          replace hx181_2 := (HB.out.cell (World.block_lt_of_cell? w _ hx181_2)).trans hx181_2
          replace hx181_3 := (HB.out.cell (World.block_lt_of_cell? w _ hx181_3)).trans hx181_3
          replace hx181_4 := (HB.out.cell (World.block_lt_of_cell? w _ hx181_4)).trans hx181_4
          replace hx181_5 := (HB.out.cell (World.block_lt_of_cell? w _ hx181_5)).trans hx181_5
          replace p181 := eq_true p181
          replace q181 := eq_true q181
          go_upto_block 2 with (first | ((with_reducible refine gate_dst (N := 5) rfl ?_); refine box_event ?hg (N := 5) ?hd (cs := #[.int .i64 0, .int .i64 0, .int .i64 0, .int .i64 0, .int .i64 0, .string (⟨#[]⟩ : ByteArray)]) (t := 82) ?hr ?_; (case hd => rfl); (case hg => rfl); (case hr => first | (go_simp; done) | (go_simp; rfl)); intro gb182 hg w28 hbox hb; have n0_ := Aside0.mk (Kd.R_below (by (with_reducible repeat (first | apply qa | apply qc | apply qb)); exact HO_3.out) hb); have n1_ := Aside0.mk (blk_below (g := gb175) (o := .cells #[.slice A0_0 l0_0.length c0_0, .slice (some ad181) l0_1.length c0_1] 76 (0, 0)) (by (with_reducible repeat (first | refine q4 ?_ _ | refine q5 ?_ | refine q6 ?_ _)); exact BK175.out) hb); have n2_ := Aside0.mk (below_step (by repeat (first | (with_reducible first | exact HB.out | apply q7 | apply q8 | apply q9 | refine below_set ?_ GE175.out) | exact HB.out)) hb); have n3_ := Aside0.mk (hbox); have n4_ := Aside0.mk ((by rw [hg]; exact (below_size (by repeat (first | (with_reducible first | exact HB.out | apply q7 | apply q8 | apply q9 | refine below_set ?_ GE175.out) | exact HB.out))) : w.heap.size ≤ gb182)); have n5_ := Aside0.mk ((by rw [hg]; exact (below_size (by repeat (first | (with_reducible first | exact HB.out | apply q7 | apply q8 | apply q9 | refine below_set ?_ GE175.out) | exact HB.out))) : w.heap.size ≤ gb182)); have n6_ := Aside0.mk ((by rw [hg]; exact Nat.ne_of_lt (blk_lt (g := gb175) (o := .cells #[.slice A0_0 l0_0.length c0_0, .slice (some ad181) l0_1.length c0_1] 76 (0, 0)) (by (with_reducible repeat (first | refine q4 ?_ _ | refine q5 ?_ | refine q6 ?_ _)); exact BK175.out)) : gb175 ≠ gb182)); have n7_ := Aside0.mk ((by rw [hg]; exact Nat.ne_of_gt (blk_lt (g := gb175) (o := .cells #[.slice A0_0 l0_0.length c0_0, .slice (some ad181) l0_1.length c0_1] 76 (0, 0)) (by (with_reducible repeat (first | refine q4 ?_ _ | refine q5 ?_ | refine q6 ?_ _)); exact BK175.out)) : gb182 ≠ gb175)); clear HO_3; clear BK175; clear HB; have HO_3 := n0_; have BK175 := n1_; have HB := n2_; have BK182 := n3_; have GW182 := n4_; have GE182 := n5_; have NB175_182 := n6_; have NB182_175 := n7_; clear n0_ n1_ n2_ n3_ n4_ n5_ n6_ n7_; clear hb hbox hg; have hnb29 := NB182_175.out; have hnc29 := NB175_182.out; have hcz30_0 : w28.cell? ⟨gb182, 0, none⟩ = some (.int .i64 0) := (blk_cell BK182.out 0).trans rfl; have hcz30_1 : w28.cell? ⟨gb182, 1, none⟩ = some (.int .i64 0) := (blk_cell BK182.out 1).trans rfl; have hcz30_2 : w28.cell? ⟨gb182, 2, none⟩ = some (.int .i64 0) := (blk_cell BK182.out 2).trans rfl; have hcz30_3 : w28.cell? ⟨gb182, 3, none⟩ = some (.int .i64 0) := (blk_cell BK182.out 3).trans rfl; have hcz30_4 : w28.cell? ⟨gb182, 4, none⟩ = some (.int .i64 0) := (blk_cell BK182.out 4).trans rfl; have hcz30_5 : w28.cell? ⟨gb182, 5, none⟩ = some (.string (⟨#[]⟩ : ByteArray)) := (blk_cell BK182.out 5).trans rfl; have hfz30_0 := blk_frozen BK182.out 0; have hfz30_1 := blk_frozen BK182.out 1; have hfz30_2 := blk_frozen BK182.out 2; have hfz30_3 := blk_frozen BK182.out 3; have hfz30_4 := blk_frozen BK182.out 4; have hfz30_5 := blk_frozen BK182.out 5; obtain ⟨Ao31, co31, eo31⟩ := Kd.R_slice HO_3.out; subst eo31) | ((with_reducible refine gate_callee (f := 46) rfl ?_); refine goesL_ (some 37) rfl rfl Tryd.func46 (by kernel_rfl) rfl #[.slice Ao31 x3_1.length co31] rfl (by (try simp only [List.map_toArray, List.map_cons, List.map_nil]); first | done | rfl | (simp only [List.length_drop, List.length_take]; rfl)) ?_; (with_reducible refine (quillref0_CopyMarks.calls kj12 _ _ x3_1 t183 _ ?side1 ?side2 A20.out).mono ?_); (case side1 => refine (Kd.R_reads' (e := 150) (base := w.heap.size) (ok := fun k_ => True) (n := x3_1.length) (c := co31) ?_).2.2; exact (by (with_reducible repeat (first | apply qa | apply qc | apply qb)); exact (Kd.R_mono (Kd.R_far (p := ⟨gb182, 5, none⟩) (Kd.R_far (p := ⟨gb182, 4, none⟩) (Kd.R_far (p := ⟨gb182, 3, none⟩) (Kd.R_far (p := ⟨gb182, 2, none⟩) (Kd.R_far (p := ⟨gb182, 1, none⟩) (Kd.R_far (p := ⟨gb182, 0, none⟩) (Kd.R_types HO_3.out BK182.out (by decide)) (fun _ hk => hk.2) (.int .i64 ((rd_T82 l0_1 x4_1).f0))) (fun _ hk => hk.2) (.int .i64 ((rd_T82 l0_1 x4_1).f1))) (fun _ hk => hk.2) (.int .i64 ((rd_T82 l0_1 x4_1).f2))) (fun _ hk => hk.2) (.int .i64 ((rd_T82 l0_1 x4_1).f3.f0))) (fun _ hk => hk.2) (.int .i64 ((rd_T82 l0_1 x4_1).f3.f1))) (fun _ hk => hk.2) (.string ((rd_T82 l0_1 x4_1).f3.f2))) (fun _ h_ => h_.1)))); (case side2 => exact (Kd.R_reads' HO_3.out).2.1); rintro e w32 ⟨v184, rfl, ho0, hb⟩; refine ⟨_, rfl, ?_⟩; have n0_ := Aside0.mk (Kd.R_elder' (by (with_reducible repeat (first | apply qa | apply qc | apply qb)); exact (Kd.R_mono (Kd.R_far (p := ⟨gb182, 5, none⟩) (Kd.R_far (p := ⟨gb182, 4, none⟩) (Kd.R_far (p := ⟨gb182, 3, none⟩) (Kd.R_far (p := ⟨gb182, 2, none⟩) (Kd.R_far (p := ⟨gb182, 1, none⟩) (Kd.R_far (p := ⟨gb182, 0, none⟩) (Kd.R_types HO_3.out BK182.out (by decide)) (fun _ hk => hk.2) (.int .i64 ((rd_T82 l0_1 x4_1).f0))) (fun _ hk => hk.2) (.int .i64 ((rd_T82 l0_1 x4_1).f1))) (fun _ hk => hk.2) (.int .i64 ((rd_T82 l0_1 x4_1).f2))) (fun _ hk => hk.2) (.int .i64 ((rd_T82 l0_1 x4_1).f3.f0))) (fun _ hk => hk.2) (.int .i64 ((rd_T82 l0_1 x4_1).f3.f1))) (fun _ hk => hk.2) (.string ((rd_T82 l0_1 x4_1).f3.f2))) (fun _ h_ => h_.1))) (Kd.R_base ho0) hb); have n1_ := Aside0.mk (Kd.R_lower (Kd.R_new' ho0 (Kd.R_lt (by (with_reducible repeat (first | apply qa | apply qc | apply qb)); exact (Kd.R_mono (Kd.R_far (p := ⟨gb182, 5, none⟩) (Kd.R_far (p := ⟨gb182, 4, none⟩) (Kd.R_far (p := ⟨gb182, 3, none⟩) (Kd.R_far (p := ⟨gb182, 2, none⟩) (Kd.R_far (p := ⟨gb182, 1, none⟩) (Kd.R_far (p := ⟨gb182, 0, none⟩) (Kd.R_types HO_3.out BK182.out (by decide)) (fun _ hk => hk.2) (.int .i64 ((rd_T82 l0_1 x4_1).f0))) (fun _ hk => hk.2) (.int .i64 ((rd_T82 l0_1 x4_1).f1))) (fun _ hk => hk.2) (.int .i64 ((rd_T82 l0_1 x4_1).f2))) (fun _ hk => hk.2) (.int .i64 ((rd_T82 l0_1 x4_1).f3.f0))) (fun _ hk => hk.2) (.int .i64 ((rd_T82 l0_1 x4_1).f3.f1))) (fun _ hk => hk.2) (.string ((rd_T82 l0_1 x4_1).f3.f2))) (fun _ h_ => h_.1))))) (below_size (by repeat (first | (with_reducible first | exact HB.out | apply q7 | apply q8 | apply q9 | refine below_set ?_ GE175.out | refine below_set ?_ GE182.out) | exact HB.out)))); have n2_ := Aside0.mk (blk_below (g := gb175) (o := .cells #[.slice A0_0 l0_0.length c0_0, .slice (some ad181) l0_1.length c0_1] 76 (0, 0)) (by (with_reducible repeat (first | refine q4 ?_ _ | refine q5 ?_ | refine q6 ?_ _)); refine blk_far ?_ NB175_182.out _; (with_reducible repeat (first | refine q4 ?_ _ | refine q5 ?_ | refine q6 ?_ _)); refine blk_far ?_ NB175_182.out _; (with_reducible repeat (first | refine q4 ?_ _ | refine q5 ?_ | refine q6 ?_ _)); refine blk_far ?_ NB175_182.out _; (with_reducible repeat (first | refine q4 ?_ _ | refine q5 ?_ | refine q6 ?_ _)); refine blk_far ?_ NB175_182.out _; (with_reducible repeat (first | refine q4 ?_ _ | refine q5 ?_ | refine q6 ?_ _)); refine blk_far ?_ NB175_182.out _; (with_reducible repeat (first | refine q4 ?_ _ | refine q5 ?_ | refine q6 ?_ _)); refine blk_far ?_ NB175_182.out _; (with_reducible repeat (first | refine q4 ?_ _ | refine q5 ?_ | refine q6 ?_ _)); exact BK175.out) hb); have n3_ := Aside0.mk (blk_below (g := gb182) (o := .cells #[.int .i64 ((rd_T82 l0_1 x4_1).f0), .int .i64 ((rd_T82 l0_1 x4_1).f1), .int .i64 ((rd_T82 l0_1 x4_1).f2), .int .i64 ((rd_T82 l0_1 x4_1).f3.f0), .int .i64 ((rd_T82 l0_1 x4_1).f3.f1), .string ((rd_T82 l0_1 x4_1).f3.f2)] 82 (0, 0)) (by (with_reducible repeat (first | refine q4 ?_ _ | refine q5 ?_ | refine q6 ?_ _)); refine blk_put (cs := #[.int .i64 ((rd_T82 l0_1 x4_1).f0), .int .i64 ((rd_T82 l0_1 x4_1).f1), .int .i64 ((rd_T82 l0_1 x4_1).f2), .int .i64 ((rd_T82 l0_1 x4_1).f3.f0), .int .i64 ((rd_T82 l0_1 x4_1).f3.f1), .string (⟨#[]⟩ : ByteArray)]) ?_ 5 _ rfl; (with_reducible repeat (first | refine q4 ?_ _ | refine q5 ?_ | refine q6 ?_ _)); refine blk_put (cs := #[.int .i64 ((rd_T82 l0_1 x4_1).f0), .int .i64 ((rd_T82 l0_1 x4_1).f1), .int .i64 ((rd_T82 l0_1 x4_1).f2), .int .i64 ((rd_T82 l0_1 x4_1).f3.f0), .int .i64 0, .string (⟨#[]⟩ : ByteArray)]) ?_ 4 _ rfl; (with_reducible repeat (first | refine q4 ?_ _ | refine q5 ?_ | refine q6 ?_ _)); refine blk_put (cs := #[.int .i64 ((rd_T82 l0_1 x4_1).f0), .int .i64 ((rd_T82 l0_1 x4_1).f1), .int .i64 ((rd_T82 l0_1 x4_1).f2), .int .i64 0, .int .i64 0, .string (⟨#[]⟩ : ByteArray)]) ?_ 3 _ rfl; (with_reducible repeat (first | refine q4 ?_ _ | refine q5 ?_ | refine q6 ?_ _)); refine blk_put (cs := #[.int .i64 ((rd_T82 l0_1 x4_1).f0), .int .i64 ((rd_T82 l0_1 x4_1).f1), .int .i64 0, .int .i64 0, .int .i64 0, .string (⟨#[]⟩ : ByteArray)]) ?_ 2 _ rfl; (with_reducible repeat (first | refine q4 ?_ _ | refine q5 ?_ | refine q6 ?_ _)); refine blk_put (cs := #[.int .i64 ((rd_T82 l0_1 x4_1).f0), .int .i64 0, .int .i64 0, .int .i64 0, .int .i64 0, .string (⟨#[]⟩ : ByteArray)]) ?_ 1 _ rfl; (with_reducible repeat (first | refine q4 ?_ _ | refine q5 ?_ | refine q6 ?_ _)); refine blk_put (cs := #[.int .i64 0, .int .i64 0, .int .i64 0, .int .i64 0, .int .i64 0, .string (⟨#[]⟩ : ByteArray)]) ?_ 0 _ rfl; (with_reducible repeat (first | refine q4 ?_ _ | refine q5 ?_ | refine q6 ?_ _)); exact BK182.out) hb); have n4_ := Aside0.mk (below_step (by repeat (first | (with_reducible first | exact HB.out | apply q7 | apply q8 | apply q9 | refine below_set ?_ GE175.out | refine below_set ?_ GE182.out) | exact HB.out)) hb); clear HO_3; clear BK175; clear BK182; clear HB; have HO_3 := n0_; have HO185 := n1_; have BK175 := n2_; have BK182 := n3_; have HB := n4_; clear n0_ n1_ n2_ n3_ n4_; (try clear hb); (try clear hb2); (try clear hk); (try clear hi); (try clear ho0)) | ((with_reducible refine gate_callee (f := 47) rfl ?_); refine goesL_ (some 39) rfl rfl Tryd.func47 (by kernel_rfl) rfl #[.slice Ao31 x3_1.length co31] rfl (by (try simp only [List.map_toArray, List.map_cons, List.map_nil]); first | done | rfl | (simp only [List.length_drop, List.length_take]; rfl)) ?_; (with_reducible refine (quillref6_Marks.calls kj12 _ _ x3_1 t186 _ ?side1 ?side2 A21.out).mono ?_); (case side1 => repeat (first | exact (Kd.R_reads' HO_3.out).2.2 | (with_reducible refine Kd.C_alloc ?_ _) | (with_reducible refine Kd.C_drewN ?_ _) | (with_reducible refine Kd.C_drew ?_))); (case side2 => exact (Kd.R_reads' HO_3.out).2.1); rintro e w33 ⟨rfl, hb⟩; refine ⟨_, rfl, ?_⟩; have n0_ := Aside0.mk (Kd.R_below (by (with_reducible repeat (first | apply qa | apply qc | apply qb)); exact HO_3.out) hb); have n1_ := Aside0.mk (Kd.R_below (by (with_reducible repeat (first | apply qa | apply qc | apply qb)); exact HO185.out) hb); have n2_ := Aside0.mk (blk_below (g := gb175) (o := .cells #[.slice A0_0 l0_0.length c0_0, .slice (some ad181) l0_1.length c0_1] 76 (0, 0)) (by (with_reducible repeat (first | refine q4 ?_ _ | refine q5 ?_ | refine q6 ?_ _)); exact BK175.out) hb); have n3_ := Aside0.mk (blk_below (g := gb182) (o := .cells #[.int .i64 ((rd_T82 l0_1 x4_1).f0), .int .i64 ((rd_T82 l0_1 x4_1).f1), .int .i64 ((rd_T82 l0_1 x4_1).f2), .int .i64 ((rd_T82 l0_1 x4_1).f3.f0), .int .i64 ((rd_T82 l0_1 x4_1).f3.f1), .string ((rd_T82 l0_1 x4_1).f3.f2)] 82 (0, 0)) (by (with_reducible repeat (first | refine q4 ?_ _ | refine q5 ?_ | refine q6 ?_ _)); exact BK182.out) hb); have n4_ := Aside0.mk (below_step (by repeat (first | (with_reducible first | exact HB.out | apply q7 | apply q8 | apply q9 | refine below_set ?_ GE175.out | refine below_set ?_ GE182.out) | exact HB.out)) hb); clear HO_3; clear HO185; clear BK175; clear BK182; clear HB; have HO_3 := n0_; have HO185 := n1_; have BK175 := n2_; have BK182 := n3_; have HB := n4_; clear n0_ n1_ n2_ n3_ n4_; (try clear hb); (try clear hb2); (try clear hk); (try clear hi); obtain ⟨Ao34, co34, eo34⟩ := Kd.R_slice HO185.out; subst eo34) | ((with_reducible refine gate_callee (f := 49) rfl ?_); refine goesL_ (some 41) rfl rfl Tryd.func49 (by kernel_rfl) rfl #[.slice Ao34 t183.length co34] rfl (by (try simp only [List.map_toArray, List.map_cons, List.map_nil]); first | done | rfl | (simp only [List.length_drop, List.length_take]; rfl)) ?_; (with_reducible refine (marks_Check.calls kj12 _ _ t183 t187 _ ?side1 ?side2 A22.out).mono ?_); (case side1 => repeat (first | exact (Kd.R_reads' HO185.out).2.2 | (with_reducible refine Kd.C_alloc ?_ _) | (with_reducible refine Kd.C_drewN ?_ _) | (with_reducible refine Kd.C_drew ?_))); (case side2 => exact (Kd.R_reads' HO185.out).2.1); rintro e w35 ⟨rfl, hb⟩; refine ⟨_, rfl, ?_⟩; have n0_ := Aside0.mk (Kd.R_below (by (with_reducible repeat (first | apply qa | apply qc | apply qb)); exact HO_3.out) hb); have n1_ := Aside0.mk (Kd.R_below (by (with_reducible repeat (first | apply qa | apply qc | apply qb)); exact HO185.out) hb); have n2_ := Aside0.mk (blk_below (g := gb175) (o := .cells #[.slice A0_0 l0_0.length c0_0, .slice (some ad181) l0_1.length c0_1] 76 (0, 0)) (by (with_reducible repeat (first | refine q4 ?_ _ | refine q5 ?_ | refine q6 ?_ _)); exact BK175.out) hb); have n3_ := Aside0.mk (blk_below (g := gb182) (o := .cells #[.int .i64 ((rd_T82 l0_1 x4_1).f0), .int .i64 ((rd_T82 l0_1 x4_1).f1), .int .i64 ((rd_T82 l0_1 x4_1).f2), .int .i64 ((rd_T82 l0_1 x4_1).f3.f0), .int .i64 ((rd_T82 l0_1 x4_1).f3.f1), .string ((rd_T82 l0_1 x4_1).f3.f2)] 82 (0, 0)) (by (with_reducible repeat (first | refine q4 ?_ _ | refine q5 ?_ | refine q6 ?_ _)); exact BK182.out) hb); have n4_ := Aside0.mk (below_step (by repeat (first | (with_reducible first | exact HB.out | apply q7 | apply q8 | apply q9 | refine below_set ?_ GE175.out | refine below_set ?_ GE182.out) | exact HB.out)) hb); clear HO_3; clear HO185; clear BK175; clear BK182; clear HB; have HO_3 := n0_; have HO185 := n1_; have BK175 := n2_; have BK182 := n3_; have HB := n4_; clear n0_ n1_ n2_ n3_ n4_; (try clear hb); (try clear hb2); (try clear hk); (try clear hi)) | ((with_reducible refine gate_callee (f := 48) rfl ?_); refine goesL_ (some 42) rfl rfl Tryd.func48 (by kernel_rfl) rfl #[.int .i64 t187] rfl (by (try simp only [List.map_toArray, List.map_cons, List.map_nil]); first | done | rfl | (simp only [List.length_drop, List.length_take]; rfl)) ?_; (with_reducible refine (quilllaw6_num.calls t187 t188 _ A23.out).mono ?_); rintro e w' ⟨rfl, ⟨nd, rfl⟩⟩; refine ⟨_, rfl, ?_⟩; have hcz36_0 : w35.cell? ⟨gb182, 0, none⟩ = some (.int .i64 ((rd_T82 l0_1 x4_1).f0)) := (blk_cell BK182.out 0).trans rfl; have hcz36_1 : w35.cell? ⟨gb182, 1, none⟩ = some (.int .i64 ((rd_T82 l0_1 x4_1).f1)) := (blk_cell BK182.out 1).trans rfl; have hcz36_2 : w35.cell? ⟨gb182, 2, none⟩ = some (.int .i64 ((rd_T82 l0_1 x4_1).f2)) := (blk_cell BK182.out 2).trans rfl; have hcz36_3 : w35.cell? ⟨gb182, 3, none⟩ = some (.int .i64 ((rd_T82 l0_1 x4_1).f3.f0)) := (blk_cell BK182.out 3).trans rfl; have hcz36_4 : w35.cell? ⟨gb182, 4, none⟩ = some (.int .i64 ((rd_T82 l0_1 x4_1).f3.f1)) := (blk_cell BK182.out 4).trans rfl; have hcz36_5 : w35.cell? ⟨gb182, 5, none⟩ = some (.string ((rd_T82 l0_1 x4_1).f3.f2)) := (blk_cell BK182.out 5).trans rfl; have hfz36_0 := blk_frozen BK182.out 0; have hfz36_1 := blk_frozen BK182.out 1; have hfz36_2 := blk_frozen BK182.out 2; have hfz36_3 := blk_frozen BK182.out 3; have hfz36_4 := blk_frozen BK182.out 4; have hfz36_5 := blk_frozen BK182.out 5) | ((with_reducible refine gate_callee (f := 19) rfl ?_); refine goesL_ (some 48) rfl rfl Tryd.func19 (by kernel_rfl) rfl #[.int .i64 ((rd_T82 l0_1 x4_1).f0), .int .i64 5] rfl (by (try simp only [List.map_toArray, List.map_cons, List.map_nil]); first | done | rfl | (simp only [List.length_drop, List.length_take]; rfl)) ?_; (with_reducible refine (quilllaw0_Within.calls ((rd_T82 l0_1 x4_1).f0) 5 t189 _ A25.out).mono ?_); rintro e w' ⟨rfl, ⟨nd, rfl⟩⟩; refine ⟨_, rfl, ?_⟩))
          (try simp only [Act.put, List.setIfInBounds_toArray, List.set_cons_zero, List.set_cons_succ])
          go_cut [8, 9, 10, 11] (fun v8 v9 v10 v11 wc => ∃ (kq : Nat) (x8_25 : Int) (x9_25 : List (S150)) (x10_25 : List (S150)) (x11_25 : Int), v8 = .int .i64 x8_25 ∧ v11 = .int .i64 x11_25 ∧ Aside0 (quilllaw6_MarksExact.j4 kq x3_1 x4_1 t183 x8_25 x9_25 x10_25 x11_25 l0_0 l0_1 = some r) ∧ Aside0 (kq ≤ kj12) ∧ Aside0 (Kd.R k150 150 wc w.heap.size (fun k_ => some k_ ≠ ((.slice Ao34 t183.length co34) : Value).ownBlock ∧ some k_ ≠ (v9 : Value).ownBlock ∧ some k_ ≠ (v10 : Value).ownBlock) (.slice Ao31 x3_1.length co31) x3_1) ∧ Aside0 (Kd.R k150 150 wc w.heap.size (fun k_ => some k_ ≠ ((.slice Ao31 x3_1.length co31) : Value).ownBlock ∧ some k_ ≠ (v9 : Value).ownBlock ∧ some k_ ≠ (v10 : Value).ownBlock) (.slice Ao34 t183.length co34) t183) ∧ Aside0 (Kd.R k150 150 wc w.heap.size (fun k_ => some k_ ≠ ((.slice Ao31 x3_1.length co31) : Value).ownBlock ∧ some k_ ≠ ((.slice Ao34 t183.length co34) : Value).ownBlock ∧ some k_ ≠ (v10 : Value).ownBlock) v9 x9_25) ∧ Aside0 (Kd.R k150 150 wc w.heap.size (fun k_ => some k_ ≠ ((.slice Ao31 x3_1.length co31) : Value).ownBlock ∧ some k_ ≠ ((.slice Ao34 t183.length co34) : Value).ownBlock ∧ some k_ ≠ (v9 : Value).ownBlock) v10 x10_25) ∧ Aside0 (wc.heap[gb175]? = some (.cells #[(.slice A0_0 l0_0.length c0_0), (.slice (some ad181) l0_1.length c0_1)] 76 (0, 0))) ∧ Aside0 (wc.heap[gb182]? = some (.cells #[.int .i64 ((rd_T82 l0_1 x4_1).f0), .int .i64 ((rd_T82 l0_1 x4_1).f1), .int .i64 ((rd_T82 l0_1 x4_1).f2), .int .i64 ((rd_T82 l0_1 x4_1).f3.f0), .int .i64 ((rd_T82 l0_1 x4_1).f3.f1), .string ((rd_T82 l0_1 x4_1).f3.f2)] 82 (0, 0))) ∧ Aside0 (Below w.heap.size w wc))
          case first =>
           have H := HC26.out
           clear HC26
           have HC37 := Aside0.mk H
           clear H
           go_upto_if 66 with (fail)
           go_cut [66] (fun v66 wc => ∃ (kq : Nat) (x66_36 : Bool), v66 = .bool x66_36 ∧ Aside0 (quilllaw6_MarksExact.j2 kq x3_1 x4_1 t183 t186 1 ([] : List (S150)) t189 x66_36 l0_0 l0_1 ((rd_T82 l0_1 x4_1).f0) ((rd_T82 l0_1 x4_1).f1) ((rd_T82 l0_1 x4_1).f2) ((rd_T82 l0_1 x4_1).f3.f0) ((rd_T82 l0_1 x4_1).f3.f1) ((rd_T82 l0_1 x4_1).f3.f2) = some r) ∧ Aside0 (kq ≤ kj12) ∧ Aside0 (Kd.R k150 150 wc w.heap.size (fun k_ => some k_ ≠ ((.slice Ao34 t183.length co34) : Value).ownBlock ∧ some k_ ≠ ((.slice none 0 0) : Value).ownBlock) (.slice Ao31 x3_1.length co31) x3_1) ∧ Aside0 (Kd.R k150 150 wc w.heap.size (fun k_ => some k_ ≠ ((.slice Ao31 x3_1.length co31) : Value).ownBlock ∧ some k_ ≠ ((.slice none 0 0) : Value).ownBlock) (.slice Ao34 t183.length co34) t183) ∧ Aside0 (Kd.R k150 150 wc w.heap.size (fun k_ => some k_ ≠ ((.slice Ao31 x3_1.length co31) : Value).ownBlock ∧ some k_ ≠ ((.slice Ao34 t183.length co34) : Value).ownBlock) (.slice none 0 0) ([] : List (S150))) ∧ Aside0 (wc.heap[gb175]? = some (.cells #[(.slice A0_0 l0_0.length c0_0), (.slice (some ad181) l0_1.length c0_1)] 76 (0, 0))) ∧ Aside0 (wc.heap[gb182]? = some (.cells #[.int .i64 ((rd_T82 l0_1 x4_1).f0), .int .i64 ((rd_T82 l0_1 x4_1).f1), .int .i64 ((rd_T82 l0_1 x4_1).f2), .int .i64 ((rd_T82 l0_1 x4_1).f3.f0), .int .i64 ((rd_T82 l0_1 x4_1).f3.f1), .string ((rd_T82 l0_1 x4_1).f3.f2)] 82 (0, 0))) ∧ Aside0 (Below w.heap.size w wc))
           case first =>
            have H := HC37.out
            clear HC37
            by_cases c38 : t189 = 0
            ·
             rw [if_pos c38] at H
             have c38b0 : (t189 == 0) = true := beq_iff_eq.mpr c38
             have c38b1 : (t189 != 0) = false := bne_eq_false_iff_eq.mpr c38
             clear c38
             (first | rw [c38b0] | (simp only [i64_w, i32_w]; rw [c38b0]) | skip)
             have H' := Aside0.mk H
             clear H
             go_wp2
             go_meet
             case rel => exact ⟨_, ((t189 == 0)), (by first | rfl | (simp; done) | (simp [*]; done)), H', ⟨by have := HK1.out; have := HJ12.out; first | omega | exact Nat.le_refl _⟩, ⟨by (with_reducible repeat (first | apply qa | apply qc | apply qb)); exact Kd.R_mono HO_3.out (fun _ hk => ⟨hk.2, (by simp [Value.ownBlock])⟩)⟩, ⟨by (with_reducible repeat (first | apply qa | apply qc | apply qb)); exact Kd.R_mono HO185.out (fun _ hk => ⟨hk.2, (by simp [Value.ownBlock])⟩)⟩, ⟨by first | exact Kd.R_nil _ _ _ _ _ | exact Kd.N_nil _ _ _ _ _ | exact Kd.V_nil _ _ _ _ _ | exact Kd.Q_nil _ _ _ _ _ | exact Kd.S_nil _ _ _ _ _⟩, ⟨by (with_reducible repeat (first | refine q4 ?_ _ | refine q5 ?_ | refine q6 ?_ _)); exact BK175.out⟩, ⟨by (with_reducible repeat (first | refine q4 ?_ _ | refine q5 ?_ | refine q6 ?_ _)); exact BK182.out⟩, ⟨by repeat (first | (with_reducible first | exact HB.out | apply q7 | apply q8 | apply q9 | refine below_set ?_ GE175.out | refine below_set ?_ GE182.out) | exact HB.out)⟩⟩
            ·
             rw [if_neg c38] at H
             have c38b0 : (t189 == 0) = false := beq_eq_false_iff_ne.mpr c38
             have c38b1 : (t189 != 0) = true := bne_iff_ne.mpr c38
             (first | rw [c38b0] | (simp only [i64_w, i32_w]; rw [c38b0]) | skip)
             have H' := Aside0.mk H
             clear H
             go_wp2
             go_meet
             case rel => exact ⟨_, ((t189 == 1)), (by first | rfl | (simp; done) | (simp [*]; done)), H', ⟨by have := HK1.out; have := HJ12.out; first | omega | exact Nat.le_refl _⟩, ⟨by (with_reducible repeat (first | apply qa | apply qc | apply qb)); exact Kd.R_mono HO_3.out (fun _ hk => ⟨hk.2, (by simp [Value.ownBlock])⟩)⟩, ⟨by (with_reducible repeat (first | apply qa | apply qc | apply qb)); exact Kd.R_mono HO185.out (fun _ hk => ⟨hk.2, (by simp [Value.ownBlock])⟩)⟩, ⟨by first | exact Kd.R_nil _ _ _ _ _ | exact Kd.N_nil _ _ _ _ _ | exact Kd.V_nil _ _ _ _ _ | exact Kd.Q_nil _ _ _ _ _ | exact Kd.S_nil _ _ _ _ _⟩, ⟨by (with_reducible repeat (first | refine q4 ?_ _ | refine q5 ?_ | refine q6 ?_ _)); exact BK175.out⟩, ⟨by (with_reducible repeat (first | refine q4 ?_ _ | refine q5 ?_ | refine q6 ?_ _)); exact BK182.out⟩, ⟨by repeat (first | (with_reducible first | exact HB.out | apply q7 | apply q8 | apply q9 | refine below_set ?_ GE175.out | refine below_set ?_ GE182.out) | exact HB.out)⟩⟩
           case rest =>
            clear HC37
            try clear c1
            try clear p1
            try clear q1
            try clear hx1
            try clear c2
            try clear p2
            try clear c3
            try clear c4
            try clear c7
            try clear c14
            try clear c14b0
            try clear c17
            try clear c18
            try clear c18b0
            try clear p18
            try clear q18
            try clear hx18
            try clear c19
            try clear c19b0
            try clear c24
            try clear c24b0
            try clear c24b1
            try clear c24b2
            try clear c29
            try clear c38
            try clear c38b0
            try clear c38b1
            try clear hcz11_0
            try clear hcz11_1
            try clear hcz15_0
            try clear hcz15_1
            try clear hcz16_0
            try clear hcz16_1
            try clear hcz27_0
            try clear hcz27_1
            try clear hcz30_0
            try clear hcz30_1
            try clear hcz30_2
            try clear hcz30_3
            try clear hcz30_4
            try clear hcz30_5
            try clear hcz36_0
            try clear hcz36_1
            try clear hcz36_2
            try clear hcz36_3
            try clear hcz36_4
            try clear hcz36_5
            try clear hcz5_0
            try clear hcz5_1
            try clear hcz9_0
            try clear hcz9_1
            try clear hfz11_0
            try clear hfz11_1
            try clear hfz15_0
            try clear hfz15_1
            try clear hfz16_0
            try clear hfz16_1
            try clear hfz27_0
            try clear hfz27_1
            try clear hfz30_0
            try clear hfz30_1
            try clear hfz30_2
            try clear hfz30_3
            try clear hfz30_4
            try clear hfz30_5
            try clear hfz36_0
            try clear hfz36_1
            try clear hfz36_2
            try clear hfz36_3
            try clear hfz36_4
            try clear hfz36_5
            try clear hfz5_0
            try clear hfz5_1
            try clear hfz9_0
            try clear hfz9_1
            try clear hx181_0
            try clear hx181_1
            try clear hx181_2
            try clear hx181_3
            try clear hx181_4
            try clear hx181_5
            try clear p181
            try clear p2
            try clear q181
            obtain ⟨kq, x66_36, rfl, HA, HJ36, HO_3, HO_6, HO_10, BK175, BK182, HB⟩ := hcut
            cases kq with
            | zero => exact absurd HA.out (by simp [quilllaw6_MarksExact.j2])
            | succ kj36 =>
             have H := HA.out
             clear HA
             simp only [quilllaw6_MarksExact.j2] at H
             by_cases c39 : x66_36 = true
             ·
              subst c39
              have H1 : ((marks_Set.f t183 ((rd_T82 l0_1 x4_1).f1) ((rd_T82 l0_1 x4_1).f2)).bind fun bt190 => (if t186 = true then ((quillref0_Between.f ((rd_T82 l0_1 x4_1).f1) 97 122).bind fun t194 => (if t194 = true then ((quillref0_Num.f ((rd_T82 l0_1 x4_1).f2) 4000).bind fun t195 => (if t195 = true then ((quillref6_Set.f kj36 x3_1 ((rd_T82 l0_1 x4_1).f1) ((rd_T82 l0_1 x4_1).f2)).bind fun t196 => (quilllaw6_MarksExact.j4 kj36 x3_1 x4_1 t183 0 bt190.1 t196 bt190.2 l0_0 l0_1)) else (quilllaw6_MarksExact.j4 kj36 x3_1 x4_1 t183 1 bt190.1 ([] : List (S150)) bt190.2 l0_0 l0_1))) else (quilllaw6_MarksExact.j4 kj36 x3_1 x4_1 t183 1 bt190.1 ([] : List (S150)) bt190.2 l0_0 l0_1))) else (quilllaw6_MarksExact.j4 kj36 x3_1 x4_1 t183 1 bt190.1 ([] : List (S150)) bt190.2 l0_0 l0_1))) = some r := by rw [if_pos rfl] at H; exact H
              clear H
              have H := H1
              clear H1
              replace H := Option.bind_eq_some_iff.mp H
              obtain ⟨⟨t190, t191⟩, A400, H⟩ := H
              replace H : (if t186 = true then ((quillref0_Between.f ((rd_T82 l0_1 x4_1).f1) 97 122).bind fun t194 => (if t194 = true then ((quillref0_Num.f ((rd_T82 l0_1 x4_1).f2) 4000).bind fun t195 => (if t195 = true then ((quillref6_Set.f kj36 x3_1 ((rd_T82 l0_1 x4_1).f1) ((rd_T82 l0_1 x4_1).f2)).bind fun t196 => (quilllaw6_MarksExact.j4 kj36 x3_1 x4_1 t183 0 t190 t196 t191 l0_0 l0_1)) else (quilllaw6_MarksExact.j4 kj36 x3_1 x4_1 t183 1 t190 ([] : List (S150)) t191 l0_0 l0_1))) else (quilllaw6_MarksExact.j4 kj36 x3_1 x4_1 t183 1 t190 ([] : List (S150)) t191 l0_0 l0_1))) else (quilllaw6_MarksExact.j4 kj36 x3_1 x4_1 t183 1 t190 ([] : List (S150)) t191 l0_0 l0_1)) = some r := H
              have A40 := Aside0.mk A400
              clear A400
              by_cases c41 : t186 = true
              ·
               subst c41
               have H1 : ((quillref0_Between.f ((rd_T82 l0_1 x4_1).f1) 97 122).bind fun t194 => (if t194 = true then ((quillref0_Num.f ((rd_T82 l0_1 x4_1).f2) 4000).bind fun t195 => (if t195 = true then ((quillref6_Set.f kj36 x3_1 ((rd_T82 l0_1 x4_1).f1) ((rd_T82 l0_1 x4_1).f2)).bind fun t196 => (quilllaw6_MarksExact.j4 kj36 x3_1 x4_1 t183 0 t190 t196 t191 l0_0 l0_1)) else (quilllaw6_MarksExact.j4 kj36 x3_1 x4_1 t183 1 t190 ([] : List (S150)) t191 l0_0 l0_1))) else (quilllaw6_MarksExact.j4 kj36 x3_1 x4_1 t183 1 t190 ([] : List (S150)) t191 l0_0 l0_1))) = some r := by rw [if_pos rfl] at H; exact H
               clear H
               have H := H1
               clear H1
               replace H := Option.bind_eq_some_iff.mp H
               obtain ⟨t194, A420, H⟩ := H
               replace H : (if t194 = true then ((quillref0_Num.f ((rd_T82 l0_1 x4_1).f2) 4000).bind fun t195 => (if t195 = true then ((quillref6_Set.f kj36 x3_1 ((rd_T82 l0_1 x4_1).f1) ((rd_T82 l0_1 x4_1).f2)).bind fun t196 => (quilllaw6_MarksExact.j4 kj36 x3_1 x4_1 t183 0 t190 t196 t191 l0_0 l0_1)) else (quilllaw6_MarksExact.j4 kj36 x3_1 x4_1 t183 1 t190 ([] : List (S150)) t191 l0_0 l0_1))) else (quilllaw6_MarksExact.j4 kj36 x3_1 x4_1 t183 1 t190 ([] : List (S150)) t191 l0_0 l0_1)) = some r := H
               have A42 := Aside0.mk A420
               clear A420
               by_cases c43 : t194 = true
               ·
                subst c43
                have H1 : ((quillref0_Num.f ((rd_T82 l0_1 x4_1).f2) 4000).bind fun t195 => (if t195 = true then ((quillref6_Set.f kj36 x3_1 ((rd_T82 l0_1 x4_1).f1) ((rd_T82 l0_1 x4_1).f2)).bind fun t196 => (quilllaw6_MarksExact.j4 kj36 x3_1 x4_1 t183 0 t190 t196 t191 l0_0 l0_1)) else (quilllaw6_MarksExact.j4 kj36 x3_1 x4_1 t183 1 t190 ([] : List (S150)) t191 l0_0 l0_1))) = some r := by rw [if_pos rfl] at H; exact H
                clear H
                have H := H1
                clear H1
                replace H := Option.bind_eq_some_iff.mp H
                obtain ⟨t195, A440, H⟩ := H
                replace H : (if t195 = true then ((quillref6_Set.f kj36 x3_1 ((rd_T82 l0_1 x4_1).f1) ((rd_T82 l0_1 x4_1).f2)).bind fun t196 => (quilllaw6_MarksExact.j4 kj36 x3_1 x4_1 t183 0 t190 t196 t191 l0_0 l0_1)) else (quilllaw6_MarksExact.j4 kj36 x3_1 x4_1 t183 1 t190 ([] : List (S150)) t191 l0_0 l0_1)) = some r := H
                have A44 := Aside0.mk A440
                clear A440
                by_cases c45 : t195 = true
                ·
                 subst c45
                 have H1 : ((quillref6_Set.f kj36 x3_1 ((rd_T82 l0_1 x4_1).f1) ((rd_T82 l0_1 x4_1).f2)).bind fun t196 => (quilllaw6_MarksExact.j4 kj36 x3_1 x4_1 t183 0 t190 t196 t191 l0_0 l0_1)) = some r := by rw [if_pos rfl] at H; exact H
                 clear H
                 have H := H1
                 clear H1
                 replace H := Option.bind_eq_some_iff.mp H
                 obtain ⟨t196, A460, H⟩ := H
                 replace H : (quilllaw6_MarksExact.j4 kj36 x3_1 x4_1 t183 0 t190 t196 t191 l0_0 l0_1) = some r := H
                 have A46 := Aside0.mk A460
                 clear A460
                 have H' := Aside0.mk H
                 clear H
                 have hnb47 := NB182_175.out
                 have hnc47 := NB175_182.out
                 have hcz48_0 : wc.cell? ⟨gb182, 0, none⟩ = some (.int .i64 ((rd_T82 l0_1 x4_1).f0)) := (blk_cell BK182.out 0).trans rfl
                 have hcz48_1 : wc.cell? ⟨gb182, 1, none⟩ = some (.int .i64 ((rd_T82 l0_1 x4_1).f1)) := (blk_cell BK182.out 1).trans rfl
                 have hcz48_2 : wc.cell? ⟨gb182, 2, none⟩ = some (.int .i64 ((rd_T82 l0_1 x4_1).f2)) := (blk_cell BK182.out 2).trans rfl
                 have hcz48_3 : wc.cell? ⟨gb182, 3, none⟩ = some (.int .i64 ((rd_T82 l0_1 x4_1).f3.f0)) := (blk_cell BK182.out 3).trans rfl
                 have hcz48_4 : wc.cell? ⟨gb182, 4, none⟩ = some (.int .i64 ((rd_T82 l0_1 x4_1).f3.f1)) := (blk_cell BK182.out 4).trans rfl
                 have hcz48_5 : wc.cell? ⟨gb182, 5, none⟩ = some (.string ((rd_T82 l0_1 x4_1).f3.f2)) := (blk_cell BK182.out 5).trans rfl
                 have hfz48_0 := blk_frozen BK182.out 0
                 have hfz48_1 := blk_frozen BK182.out 1
                 have hfz48_2 := blk_frozen BK182.out 2
                 have hfz48_3 := blk_frozen BK182.out 3
                 have hfz48_4 := blk_frozen BK182.out 4
                 have hfz48_5 := blk_frozen BK182.out 5
                 go_wp2_with (first | ((with_reducible refine gate_callee (f := 50) rfl ?_); refine goesL_ (some 75) rfl rfl Tryd.func50 (by kernel_rfl) rfl #[.slice Ao34 t183.length co34, .int .i64 ((rd_T82 l0_1 x4_1).f1), .int .i64 ((rd_T82 l0_1 x4_1).f2)] rfl (by (try simp only [List.map_toArray, List.map_cons, List.map_nil]); first | done | rfl | (simp only [List.length_drop, List.length_take]; rfl)) ?_; (with_reducible refine (marks_Set.calls _ _ t183 ((rd_T82 l0_1 x4_1).f1) ((rd_T82 l0_1 x4_1).f2) t190 t191 _ ?side1 ?side2 A40.out).mono ?_); (case side1 => repeat (first | exact (Kd.R_reads' HO_6.out).2.2 | (with_reducible refine Kd.C_alloc ?_ _) | (with_reducible refine Kd.C_drewN ?_ _) | (with_reducible refine Kd.C_drew ?_))); (case side2 => exact (Kd.R_reads' HO_6.out).2.1); rintro e w49 ⟨v192, rfl, ho0, hb⟩; refine ⟨_, rfl, ?_⟩; have n0_ := Aside0.mk (Kd.R_elder' (by (with_reducible repeat (first | apply qa | apply qc | apply qb)); exact HO_3.out) (Kd.R_base ho0) hb); have n1_ := Aside0.mk (Kd.R_elder' (by (with_reducible repeat (first | apply qa | apply qc | apply qb)); exact HO_6.out) (Kd.R_base ho0) hb); have n2_ := Aside0.mk (Kd.R_elder' (by (with_reducible repeat (first | apply qa | apply qc | apply qb)); exact HO_10.out) (Kd.R_base ho0) hb); have n3_ := Aside0.mk (Kd.R_lower (Kd.R_new' (Kd.R_new' (Kd.R_new' ho0 (Kd.R_lt (by (with_reducible repeat (first | apply qa | apply qc | apply qb)); exact HO_3.out))) (Kd.R_lt (by (with_reducible repeat (first | apply qa | apply qc | apply qb)); exact HO_6.out))) (Kd.R_lt (by (with_reducible repeat (first | apply qa | apply qc | apply qb)); exact HO_10.out))) (below_size (by repeat (first | (with_reducible first | exact HB.out | apply q7 | apply q8 | apply q9 | refine below_set ?_ GE175.out | refine below_set ?_ GE182.out) | exact HB.out)))); have n4_ := Aside0.mk (blk_below (g := gb175) (o := .cells #[.slice A0_0 l0_0.length c0_0, .slice (some ad181) l0_1.length c0_1] 76 (0, 0)) (by (with_reducible repeat (first | refine q4 ?_ _ | refine q5 ?_ | refine q6 ?_ _)); exact BK175.out) hb); have n5_ := Aside0.mk (blk_below (g := gb182) (o := .cells #[.int .i64 ((rd_T82 l0_1 x4_1).f0), .int .i64 ((rd_T82 l0_1 x4_1).f1), .int .i64 ((rd_T82 l0_1 x4_1).f2), .int .i64 ((rd_T82 l0_1 x4_1).f3.f0), .int .i64 ((rd_T82 l0_1 x4_1).f3.f1), .string ((rd_T82 l0_1 x4_1).f3.f2)] 82 (0, 0)) (by (with_reducible repeat (first | refine q4 ?_ _ | refine q5 ?_ | refine q6 ?_ _)); exact BK182.out) hb); have n6_ := Aside0.mk (below_step (by repeat (first | (with_reducible first | exact HB.out | apply q7 | apply q8 | apply q9 | refine below_set ?_ GE175.out | refine below_set ?_ GE182.out) | exact HB.out)) hb); clear HO_3; clear HO_6; clear HO_10; clear BK175; clear BK182; clear HB; have HO_3 := n0_; have HO_6 := n1_; have HO_10 := n2_; have HO193 := n3_; have BK175 := n4_; have BK182 := n5_; have HB := n6_; clear n0_ n1_ n2_ n3_ n4_ n5_ n6_; (try clear hb); (try clear hb2); (try clear hk); (try clear hi); (try clear ho0); have hcz50_0 : w49.cell? ⟨gb182, 0, none⟩ = some (.int .i64 ((rd_T82 l0_1 x4_1).f0)) := (blk_cell BK182.out 0).trans rfl; have hcz50_1 : w49.cell? ⟨gb182, 1, none⟩ = some (.int .i64 ((rd_T82 l0_1 x4_1).f1)) := (blk_cell BK182.out 1).trans rfl; have hcz50_2 : w49.cell? ⟨gb182, 2, none⟩ = some (.int .i64 ((rd_T82 l0_1 x4_1).f2)) := (blk_cell BK182.out 2).trans rfl; have hcz50_3 : w49.cell? ⟨gb182, 3, none⟩ = some (.int .i64 ((rd_T82 l0_1 x4_1).f3.f0)) := (blk_cell BK182.out 3).trans rfl; have hcz50_4 : w49.cell? ⟨gb182, 4, none⟩ = some (.int .i64 ((rd_T82 l0_1 x4_1).f3.f1)) := (blk_cell BK182.out 4).trans rfl; have hcz50_5 : w49.cell? ⟨gb182, 5, none⟩ = some (.string ((rd_T82 l0_1 x4_1).f3.f2)) := (blk_cell BK182.out 5).trans rfl; have hfz50_0 := blk_frozen BK182.out 0; have hfz50_1 := blk_frozen BK182.out 1; have hfz50_2 := blk_frozen BK182.out 2; have hfz50_3 := blk_frozen BK182.out 3; have hfz50_4 := blk_frozen BK182.out 4; have hfz50_5 := blk_frozen BK182.out 5) | (go_at_call 51; (with_reducible refine (quillref0_Between.calls ((rd_T82 l0_1 x4_1).f1) 97 122 true _ A42.out).mono ?_); rintro e w' ⟨rfl, ⟨nd, rfl⟩⟩) | (go_at_call 40; (with_reducible refine (quillref0_Num.calls ((rd_T82 l0_1 x4_1).f2) 4000 true _ A44.out).mono ?_); rintro e w' ⟨rfl, ⟨nd, rfl⟩⟩) | ((with_reducible refine gate_callee (f := 52) rfl ?_); refine goesL_ (some 94) rfl rfl Tryd.func52 (by kernel_rfl) rfl #[.slice Ao31 x3_1.length co31, .int .i64 ((rd_T82 l0_1 x4_1).f1), .int .i64 ((rd_T82 l0_1 x4_1).f2)] rfl (by (try simp only [List.map_toArray, List.map_cons, List.map_nil]); first | done | rfl | (simp only [List.length_drop, List.length_take]; rfl)) ?_; (with_reducible refine (quillref6_Set.calls kj36 _ _ x3_1 ((rd_T82 l0_1 x4_1).f1) ((rd_T82 l0_1 x4_1).f2) t196 _ ?side1 ?side2 A46.out).mono ?_); (case side1 => repeat (first | exact (Kd.R_reads' HO_3.out).2.2 | (with_reducible refine Kd.C_alloc ?_ _) | (with_reducible refine Kd.C_drewN ?_ _) | (with_reducible refine Kd.C_drew ?_))); (case side2 => exact (Kd.R_reads' HO_3.out).2.1); rintro e w51 ⟨v197, rfl, ho0, hb⟩; refine ⟨_, rfl, ?_⟩; have n0_ := Aside0.mk (Kd.R_elder' (by (with_reducible repeat (first | apply qa | apply qc | apply qb)); exact HO_3.out) (Kd.R_base ho0) hb); have n1_ := Aside0.mk (Kd.R_elder' (by (with_reducible repeat (first | apply qa | apply qc | apply qb)); exact HO_6.out) (Kd.R_base ho0) hb); have n2_ := Aside0.mk (Kd.R_elder' (by (with_reducible repeat (first | apply qa | apply qc | apply qb)); exact HO_10.out) (Kd.R_base ho0) hb); have n3_ := Aside0.mk (Kd.R_elder' (by (with_reducible repeat (first | apply qa | apply qc | apply qb)); exact HO193.out) (Kd.R_base ho0) hb); have n4_ := Aside0.mk (Kd.R_lower (Kd.R_new' (Kd.R_new' (Kd.R_new' (Kd.R_new' ho0 (Kd.R_lt (by (with_reducible repeat (first | apply qa | apply qc | apply qb)); exact HO_3.out))) (Kd.R_lt (by (with_reducible repeat (first | apply qa | apply qc | apply qb)); exact HO_6.out))) (Kd.R_lt (by (with_reducible repeat (first | apply qa | apply qc | apply qb)); exact HO_10.out))) (Kd.R_lt (by (with_reducible repeat (first | apply qa | apply qc | apply qb)); exact HO193.out))) (below_size (by repeat (first | (with_reducible first | exact HB.out | apply q7 | apply q8 | apply q9 | refine below_set ?_ GE175.out | refine below_set ?_ GE182.out) | exact HB.out)))); have n5_ := Aside0.mk (blk_below (g := gb175) (o := .cells #[.slice A0_0 l0_0.length c0_0, .slice (some ad181) l0_1.length c0_1] 76 (0, 0)) (by (with_reducible repeat (first | refine q4 ?_ _ | refine q5 ?_ | refine q6 ?_ _)); exact BK175.out) hb); have n6_ := Aside0.mk (blk_below (g := gb182) (o := .cells #[.int .i64 ((rd_T82 l0_1 x4_1).f0), .int .i64 ((rd_T82 l0_1 x4_1).f1), .int .i64 ((rd_T82 l0_1 x4_1).f2), .int .i64 ((rd_T82 l0_1 x4_1).f3.f0), .int .i64 ((rd_T82 l0_1 x4_1).f3.f1), .string ((rd_T82 l0_1 x4_1).f3.f2)] 82 (0, 0)) (by (with_reducible repeat (first | refine q4 ?_ _ | refine q5 ?_ | refine q6 ?_ _)); exact BK182.out) hb); have n7_ := Aside0.mk (below_step (by repeat (first | (with_reducible first | exact HB.out | apply q7 | apply q8 | apply q9 | refine below_set ?_ GE175.out | refine below_set ?_ GE182.out) | exact HB.out)) hb); clear HO_3; clear HO_6; clear HO_10; clear HO193; clear BK175; clear BK182; clear HB; have HO_3 := n0_; have HO_6 := n1_; have HO_10 := n2_; have HO193 := n3_; have HO198 := n4_; have BK175 := n5_; have BK182 := n6_; have HB := n7_; clear n0_ n1_ n2_ n3_ n4_ n5_ n6_ n7_; (try clear hb); (try clear hb2); (try clear hk); (try clear hi); (try clear ho0)))
                 go_meet
                 case rel => exact ⟨_, (0), (t190), (t196), (t191), (by first | rfl | (simp; done) | (simp [*]; done)), (by first | rfl | (simp; done) | (simp [*]; done)), H', ⟨by have := HK1.out; have := HJ12.out; have := HJ36.out; first | omega | exact Nat.le_refl _⟩, ⟨by (with_reducible repeat (first | apply qa | apply qc | apply qb)); exact Kd.R_mono HO_3.out (fun _ hk => ⟨hk.1.1.1, ⟨hk.1.2, hk.2⟩⟩)⟩, ⟨by (with_reducible repeat (first | apply qa | apply qc | apply qb)); exact Kd.R_mono HO_6.out (fun _ hk => ⟨hk.1.1.1, ⟨hk.1.2, hk.2⟩⟩)⟩, ⟨by (with_reducible repeat (first | apply qa | apply qc | apply qb)); exact Kd.R_mono HO193.out (fun _ hk => ⟨hk.1.1.1.2, ⟨hk.1.1.2, hk.2⟩⟩)⟩, ⟨by (with_reducible repeat (first | apply qa | apply qc | apply qb)); exact Kd.R_mono HO198.out (fun _ hk => ⟨hk.1.1.1.2, ⟨hk.1.1.2, hk.2⟩⟩)⟩, ⟨by (with_reducible repeat (first | refine q4 ?_ _ | refine q5 ?_ | refine q6 ?_ _)); exact BK175.out⟩, ⟨by (with_reducible repeat (first | refine q4 ?_ _ | refine q5 ?_ | refine q6 ?_ _)); exact BK182.out⟩, ⟨by repeat (first | (with_reducible first | exact HB.out | apply q7 | apply q8 | apply q9 | refine below_set ?_ GE175.out | refine below_set ?_ GE182.out) | exact HB.out)⟩⟩
                ·
                 replace c45 := Bool.eq_false_iff.mpr c45
                 subst c45
                 have H1 : (quilllaw6_MarksExact.j4 kj36 x3_1 x4_1 t183 1 t190 ([] : List (S150)) t191 l0_0 l0_1) = some r := by rw [if_neg (show ¬ (false = true) by decide)] at H; exact H
                 clear H
                 have H := H1
                 clear H1
                 have H' := Aside0.mk H
                 clear H
                 have hnb52 := NB182_175.out
                 have hnc52 := NB175_182.out
                 have hcz53_0 : wc.cell? ⟨gb182, 0, none⟩ = some (.int .i64 ((rd_T82 l0_1 x4_1).f0)) := (blk_cell BK182.out 0).trans rfl
                 have hcz53_1 : wc.cell? ⟨gb182, 1, none⟩ = some (.int .i64 ((rd_T82 l0_1 x4_1).f1)) := (blk_cell BK182.out 1).trans rfl
                 have hcz53_2 : wc.cell? ⟨gb182, 2, none⟩ = some (.int .i64 ((rd_T82 l0_1 x4_1).f2)) := (blk_cell BK182.out 2).trans rfl
                 have hcz53_3 : wc.cell? ⟨gb182, 3, none⟩ = some (.int .i64 ((rd_T82 l0_1 x4_1).f3.f0)) := (blk_cell BK182.out 3).trans rfl
                 have hcz53_4 : wc.cell? ⟨gb182, 4, none⟩ = some (.int .i64 ((rd_T82 l0_1 x4_1).f3.f1)) := (blk_cell BK182.out 4).trans rfl
                 have hcz53_5 : wc.cell? ⟨gb182, 5, none⟩ = some (.string ((rd_T82 l0_1 x4_1).f3.f2)) := (blk_cell BK182.out 5).trans rfl
                 have hfz53_0 := blk_frozen BK182.out 0
                 have hfz53_1 := blk_frozen BK182.out 1
                 have hfz53_2 := blk_frozen BK182.out 2
                 have hfz53_3 := blk_frozen BK182.out 3
                 have hfz53_4 := blk_frozen BK182.out 4
                 have hfz53_5 := blk_frozen BK182.out 5
                 go_wp2_with (first | ((with_reducible refine gate_callee (f := 50) rfl ?_); refine goesL_ (some 75) rfl rfl Tryd.func50 (by kernel_rfl) rfl #[.slice Ao34 t183.length co34, .int .i64 ((rd_T82 l0_1 x4_1).f1), .int .i64 ((rd_T82 l0_1 x4_1).f2)] rfl (by (try simp only [List.map_toArray, List.map_cons, List.map_nil]); first | done | rfl | (simp only [List.length_drop, List.length_take]; rfl)) ?_; (with_reducible refine (marks_Set.calls _ _ t183 ((rd_T82 l0_1 x4_1).f1) ((rd_T82 l0_1 x4_1).f2) t190 t191 _ ?side1 ?side2 A40.out).mono ?_); (case side1 => repeat (first | exact (Kd.R_reads' HO_6.out).2.2 | (with_reducible refine Kd.C_alloc ?_ _) | (with_reducible refine Kd.C_drewN ?_ _) | (with_reducible refine Kd.C_drew ?_))); (case side2 => exact (Kd.R_reads' HO_6.out).2.1); rintro e w54 ⟨v192, rfl, ho0, hb⟩; refine ⟨_, rfl, ?_⟩; have n0_ := Aside0.mk (Kd.R_elder' (by (with_reducible repeat (first | apply qa | apply qc | apply qb)); exact HO_3.out) (Kd.R_base ho0) hb); have n1_ := Aside0.mk (Kd.R_elder' (by (with_reducible repeat (first | apply qa | apply qc | apply qb)); exact HO_6.out) (Kd.R_base ho0) hb); have n2_ := Aside0.mk (Kd.R_elder' (by (with_reducible repeat (first | apply qa | apply qc | apply qb)); exact HO_10.out) (Kd.R_base ho0) hb); have n3_ := Aside0.mk (Kd.R_lower (Kd.R_new' (Kd.R_new' (Kd.R_new' ho0 (Kd.R_lt (by (with_reducible repeat (first | apply qa | apply qc | apply qb)); exact HO_3.out))) (Kd.R_lt (by (with_reducible repeat (first | apply qa | apply qc | apply qb)); exact HO_6.out))) (Kd.R_lt (by (with_reducible repeat (first | apply qa | apply qc | apply qb)); exact HO_10.out))) (below_size (by repeat (first | (with_reducible first | exact HB.out | apply q7 | apply q8 | apply q9 | refine below_set ?_ GE175.out | refine below_set ?_ GE182.out) | exact HB.out)))); have n4_ := Aside0.mk (blk_below (g := gb175) (o := .cells #[.slice A0_0 l0_0.length c0_0, .slice (some ad181) l0_1.length c0_1] 76 (0, 0)) (by (with_reducible repeat (first | refine q4 ?_ _ | refine q5 ?_ | refine q6 ?_ _)); exact BK175.out) hb); have n5_ := Aside0.mk (blk_below (g := gb182) (o := .cells #[.int .i64 ((rd_T82 l0_1 x4_1).f0), .int .i64 ((rd_T82 l0_1 x4_1).f1), .int .i64 ((rd_T82 l0_1 x4_1).f2), .int .i64 ((rd_T82 l0_1 x4_1).f3.f0), .int .i64 ((rd_T82 l0_1 x4_1).f3.f1), .string ((rd_T82 l0_1 x4_1).f3.f2)] 82 (0, 0)) (by (with_reducible repeat (first | refine q4 ?_ _ | refine q5 ?_ | refine q6 ?_ _)); exact BK182.out) hb); have n6_ := Aside0.mk (below_step (by repeat (first | (with_reducible first | exact HB.out | apply q7 | apply q8 | apply q9 | refine below_set ?_ GE175.out | refine below_set ?_ GE182.out) | exact HB.out)) hb); clear HO_3; clear HO_6; clear HO_10; clear BK175; clear BK182; clear HB; have HO_3 := n0_; have HO_6 := n1_; have HO_10 := n2_; have HO193 := n3_; have BK175 := n4_; have BK182 := n5_; have HB := n6_; clear n0_ n1_ n2_ n3_ n4_ n5_ n6_; (try clear hb); (try clear hb2); (try clear hk); (try clear hi); (try clear ho0); have hcz55_0 : w54.cell? ⟨gb182, 0, none⟩ = some (.int .i64 ((rd_T82 l0_1 x4_1).f0)) := (blk_cell BK182.out 0).trans rfl; have hcz55_1 : w54.cell? ⟨gb182, 1, none⟩ = some (.int .i64 ((rd_T82 l0_1 x4_1).f1)) := (blk_cell BK182.out 1).trans rfl; have hcz55_2 : w54.cell? ⟨gb182, 2, none⟩ = some (.int .i64 ((rd_T82 l0_1 x4_1).f2)) := (blk_cell BK182.out 2).trans rfl; have hcz55_3 : w54.cell? ⟨gb182, 3, none⟩ = some (.int .i64 ((rd_T82 l0_1 x4_1).f3.f0)) := (blk_cell BK182.out 3).trans rfl; have hcz55_4 : w54.cell? ⟨gb182, 4, none⟩ = some (.int .i64 ((rd_T82 l0_1 x4_1).f3.f1)) := (blk_cell BK182.out 4).trans rfl; have hcz55_5 : w54.cell? ⟨gb182, 5, none⟩ = some (.string ((rd_T82 l0_1 x4_1).f3.f2)) := (blk_cell BK182.out 5).trans rfl; have hfz55_0 := blk_frozen BK182.out 0; have hfz55_1 := blk_frozen BK182.out 1; have hfz55_2 := blk_frozen BK182.out 2; have hfz55_3 := blk_frozen BK182.out 3; have hfz55_4 := blk_frozen BK182.out 4; have hfz55_5 := blk_frozen BK182.out 5) | (go_at_call 51; (with_reducible refine (quillref0_Between.calls ((rd_T82 l0_1 x4_1).f1) 97 122 true _ A42.out).mono ?_); rintro e w' ⟨rfl, ⟨nd, rfl⟩⟩) | (go_at_call 40; (with_reducible refine (quillref0_Num.calls ((rd_T82 l0_1 x4_1).f2) 4000 false _ A44.out).mono ?_); rintro e w' ⟨rfl, ⟨nd, rfl⟩⟩))
                 go_meet
                 case rel => exact ⟨_, (1), (t190), (([] : List (S150))), (t191), (by first | rfl | (simp; done) | (simp [*]; done)), (by first | rfl | (simp; done) | (simp [*]; done)), H', ⟨by have := HK1.out; have := HJ12.out; have := HJ36.out; first | omega | exact Nat.le_refl _⟩, ⟨by (with_reducible repeat (first | apply qa | apply qc | apply qb)); exact Kd.R_mono HO_3.out (fun _ hk => ⟨hk.1.1, ⟨hk.2, hk.1.2⟩⟩)⟩, ⟨by (with_reducible repeat (first | apply qa | apply qc | apply qb)); exact Kd.R_mono HO_6.out (fun _ hk => ⟨hk.1.1, ⟨hk.2, hk.1.2⟩⟩)⟩, ⟨by (with_reducible repeat (first | apply qa | apply qc | apply qb)); exact Kd.R_mono HO193.out (fun _ hk => ⟨hk.1.1.2, ⟨hk.1.2, hk.2⟩⟩)⟩, ⟨by (with_reducible repeat (first | apply qa | apply qc | apply qb)); exact Kd.R_mono HO_10.out (fun _ hk => ⟨hk.1.1, ⟨hk.1.2, hk.2⟩⟩)⟩, ⟨by (with_reducible repeat (first | refine q4 ?_ _ | refine q5 ?_ | refine q6 ?_ _)); exact BK175.out⟩, ⟨by (with_reducible repeat (first | refine q4 ?_ _ | refine q5 ?_ | refine q6 ?_ _)); exact BK182.out⟩, ⟨by repeat (first | (with_reducible first | exact HB.out | apply q7 | apply q8 | apply q9 | refine below_set ?_ GE175.out | refine below_set ?_ GE182.out) | exact HB.out)⟩⟩
               ·
                replace c43 := Bool.eq_false_iff.mpr c43
                subst c43
                have H1 : (quilllaw6_MarksExact.j4 kj36 x3_1 x4_1 t183 1 t190 ([] : List (S150)) t191 l0_0 l0_1) = some r := by rw [if_neg (show ¬ (false = true) by decide)] at H; exact H
                clear H
                have H := H1
                clear H1
                have H' := Aside0.mk H
                clear H
                have hnb56 := NB182_175.out
                have hnc56 := NB175_182.out
                have hcz57_0 : wc.cell? ⟨gb182, 0, none⟩ = some (.int .i64 ((rd_T82 l0_1 x4_1).f0)) := (blk_cell BK182.out 0).trans rfl
                have hcz57_1 : wc.cell? ⟨gb182, 1, none⟩ = some (.int .i64 ((rd_T82 l0_1 x4_1).f1)) := (blk_cell BK182.out 1).trans rfl
                have hcz57_2 : wc.cell? ⟨gb182, 2, none⟩ = some (.int .i64 ((rd_T82 l0_1 x4_1).f2)) := (blk_cell BK182.out 2).trans rfl
                have hcz57_3 : wc.cell? ⟨gb182, 3, none⟩ = some (.int .i64 ((rd_T82 l0_1 x4_1).f3.f0)) := (blk_cell BK182.out 3).trans rfl
                have hcz57_4 : wc.cell? ⟨gb182, 4, none⟩ = some (.int .i64 ((rd_T82 l0_1 x4_1).f3.f1)) := (blk_cell BK182.out 4).trans rfl
                have hcz57_5 : wc.cell? ⟨gb182, 5, none⟩ = some (.string ((rd_T82 l0_1 x4_1).f3.f2)) := (blk_cell BK182.out 5).trans rfl
                have hfz57_0 := blk_frozen BK182.out 0
                have hfz57_1 := blk_frozen BK182.out 1
                have hfz57_2 := blk_frozen BK182.out 2
                have hfz57_3 := blk_frozen BK182.out 3
                have hfz57_4 := blk_frozen BK182.out 4
                have hfz57_5 := blk_frozen BK182.out 5
                go_wp2_with (first | ((with_reducible refine gate_callee (f := 50) rfl ?_); refine goesL_ (some 75) rfl rfl Tryd.func50 (by kernel_rfl) rfl #[.slice Ao34 t183.length co34, .int .i64 ((rd_T82 l0_1 x4_1).f1), .int .i64 ((rd_T82 l0_1 x4_1).f2)] rfl (by (try simp only [List.map_toArray, List.map_cons, List.map_nil]); first | done | rfl | (simp only [List.length_drop, List.length_take]; rfl)) ?_; (with_reducible refine (marks_Set.calls _ _ t183 ((rd_T82 l0_1 x4_1).f1) ((rd_T82 l0_1 x4_1).f2) t190 t191 _ ?side1 ?side2 A40.out).mono ?_); (case side1 => repeat (first | exact (Kd.R_reads' HO_6.out).2.2 | (with_reducible refine Kd.C_alloc ?_ _) | (with_reducible refine Kd.C_drewN ?_ _) | (with_reducible refine Kd.C_drew ?_))); (case side2 => exact (Kd.R_reads' HO_6.out).2.1); rintro e w58 ⟨v192, rfl, ho0, hb⟩; refine ⟨_, rfl, ?_⟩; have n0_ := Aside0.mk (Kd.R_elder' (by (with_reducible repeat (first | apply qa | apply qc | apply qb)); exact HO_3.out) (Kd.R_base ho0) hb); have n1_ := Aside0.mk (Kd.R_elder' (by (with_reducible repeat (first | apply qa | apply qc | apply qb)); exact HO_6.out) (Kd.R_base ho0) hb); have n2_ := Aside0.mk (Kd.R_elder' (by (with_reducible repeat (first | apply qa | apply qc | apply qb)); exact HO_10.out) (Kd.R_base ho0) hb); have n3_ := Aside0.mk (Kd.R_lower (Kd.R_new' (Kd.R_new' (Kd.R_new' ho0 (Kd.R_lt (by (with_reducible repeat (first | apply qa | apply qc | apply qb)); exact HO_3.out))) (Kd.R_lt (by (with_reducible repeat (first | apply qa | apply qc | apply qb)); exact HO_6.out))) (Kd.R_lt (by (with_reducible repeat (first | apply qa | apply qc | apply qb)); exact HO_10.out))) (below_size (by repeat (first | (with_reducible first | exact HB.out | apply q7 | apply q8 | apply q9 | refine below_set ?_ GE175.out | refine below_set ?_ GE182.out) | exact HB.out)))); have n4_ := Aside0.mk (blk_below (g := gb175) (o := .cells #[.slice A0_0 l0_0.length c0_0, .slice (some ad181) l0_1.length c0_1] 76 (0, 0)) (by (with_reducible repeat (first | refine q4 ?_ _ | refine q5 ?_ | refine q6 ?_ _)); exact BK175.out) hb); have n5_ := Aside0.mk (blk_below (g := gb182) (o := .cells #[.int .i64 ((rd_T82 l0_1 x4_1).f0), .int .i64 ((rd_T82 l0_1 x4_1).f1), .int .i64 ((rd_T82 l0_1 x4_1).f2), .int .i64 ((rd_T82 l0_1 x4_1).f3.f0), .int .i64 ((rd_T82 l0_1 x4_1).f3.f1), .string ((rd_T82 l0_1 x4_1).f3.f2)] 82 (0, 0)) (by (with_reducible repeat (first | refine q4 ?_ _ | refine q5 ?_ | refine q6 ?_ _)); exact BK182.out) hb); have n6_ := Aside0.mk (below_step (by repeat (first | (with_reducible first | exact HB.out | apply q7 | apply q8 | apply q9 | refine below_set ?_ GE175.out | refine below_set ?_ GE182.out) | exact HB.out)) hb); clear HO_3; clear HO_6; clear HO_10; clear BK175; clear BK182; clear HB; have HO_3 := n0_; have HO_6 := n1_; have HO_10 := n2_; have HO193 := n3_; have BK175 := n4_; have BK182 := n5_; have HB := n6_; clear n0_ n1_ n2_ n3_ n4_ n5_ n6_; (try clear hb); (try clear hb2); (try clear hk); (try clear hi); (try clear ho0); have hcz59_0 : w58.cell? ⟨gb182, 0, none⟩ = some (.int .i64 ((rd_T82 l0_1 x4_1).f0)) := (blk_cell BK182.out 0).trans rfl; have hcz59_1 : w58.cell? ⟨gb182, 1, none⟩ = some (.int .i64 ((rd_T82 l0_1 x4_1).f1)) := (blk_cell BK182.out 1).trans rfl; have hcz59_2 : w58.cell? ⟨gb182, 2, none⟩ = some (.int .i64 ((rd_T82 l0_1 x4_1).f2)) := (blk_cell BK182.out 2).trans rfl; have hcz59_3 : w58.cell? ⟨gb182, 3, none⟩ = some (.int .i64 ((rd_T82 l0_1 x4_1).f3.f0)) := (blk_cell BK182.out 3).trans rfl; have hcz59_4 : w58.cell? ⟨gb182, 4, none⟩ = some (.int .i64 ((rd_T82 l0_1 x4_1).f3.f1)) := (blk_cell BK182.out 4).trans rfl; have hcz59_5 : w58.cell? ⟨gb182, 5, none⟩ = some (.string ((rd_T82 l0_1 x4_1).f3.f2)) := (blk_cell BK182.out 5).trans rfl; have hfz59_0 := blk_frozen BK182.out 0; have hfz59_1 := blk_frozen BK182.out 1; have hfz59_2 := blk_frozen BK182.out 2; have hfz59_3 := blk_frozen BK182.out 3; have hfz59_4 := blk_frozen BK182.out 4; have hfz59_5 := blk_frozen BK182.out 5) | (go_at_call 51; (with_reducible refine (quillref0_Between.calls ((rd_T82 l0_1 x4_1).f1) 97 122 false _ A42.out).mono ?_); rintro e w' ⟨rfl, ⟨nd, rfl⟩⟩))
                go_meet
                case rel => exact ⟨_, (1), (t190), (([] : List (S150))), (t191), (by first | rfl | (simp; done) | (simp [*]; done)), (by first | rfl | (simp; done) | (simp [*]; done)), H', ⟨by have := HK1.out; have := HJ12.out; have := HJ36.out; first | omega | exact Nat.le_refl _⟩, ⟨by (with_reducible repeat (first | apply qa | apply qc | apply qb)); exact Kd.R_mono HO_3.out (fun _ hk => ⟨hk.1.1, ⟨hk.2, hk.1.2⟩⟩)⟩, ⟨by (with_reducible repeat (first | apply qa | apply qc | apply qb)); exact Kd.R_mono HO_6.out (fun _ hk => ⟨hk.1.1, ⟨hk.2, hk.1.2⟩⟩)⟩, ⟨by (with_reducible repeat (first | apply qa | apply qc | apply qb)); exact Kd.R_mono HO193.out (fun _ hk => ⟨hk.1.1.2, ⟨hk.1.2, hk.2⟩⟩)⟩, ⟨by (with_reducible repeat (first | apply qa | apply qc | apply qb)); exact Kd.R_mono HO_10.out (fun _ hk => ⟨hk.1.1, ⟨hk.1.2, hk.2⟩⟩)⟩, ⟨by (with_reducible repeat (first | refine q4 ?_ _ | refine q5 ?_ | refine q6 ?_ _)); exact BK175.out⟩, ⟨by (with_reducible repeat (first | refine q4 ?_ _ | refine q5 ?_ | refine q6 ?_ _)); exact BK182.out⟩, ⟨by repeat (first | (with_reducible first | exact HB.out | apply q7 | apply q8 | apply q9 | refine below_set ?_ GE175.out | refine below_set ?_ GE182.out) | exact HB.out)⟩⟩
              ·
               replace c41 := Bool.eq_false_iff.mpr c41
               subst c41
               have H1 : (quilllaw6_MarksExact.j4 kj36 x3_1 x4_1 t183 1 t190 ([] : List (S150)) t191 l0_0 l0_1) = some r := by rw [if_neg (show ¬ (false = true) by decide)] at H; exact H
               clear H
               have H := H1
               clear H1
               have H' := Aside0.mk H
               clear H
               have hnb60 := NB182_175.out
               have hnc60 := NB175_182.out
               have hcz61_0 : wc.cell? ⟨gb182, 0, none⟩ = some (.int .i64 ((rd_T82 l0_1 x4_1).f0)) := (blk_cell BK182.out 0).trans rfl
               have hcz61_1 : wc.cell? ⟨gb182, 1, none⟩ = some (.int .i64 ((rd_T82 l0_1 x4_1).f1)) := (blk_cell BK182.out 1).trans rfl
               have hcz61_2 : wc.cell? ⟨gb182, 2, none⟩ = some (.int .i64 ((rd_T82 l0_1 x4_1).f2)) := (blk_cell BK182.out 2).trans rfl
               have hcz61_3 : wc.cell? ⟨gb182, 3, none⟩ = some (.int .i64 ((rd_T82 l0_1 x4_1).f3.f0)) := (blk_cell BK182.out 3).trans rfl
               have hcz61_4 : wc.cell? ⟨gb182, 4, none⟩ = some (.int .i64 ((rd_T82 l0_1 x4_1).f3.f1)) := (blk_cell BK182.out 4).trans rfl
               have hcz61_5 : wc.cell? ⟨gb182, 5, none⟩ = some (.string ((rd_T82 l0_1 x4_1).f3.f2)) := (blk_cell BK182.out 5).trans rfl
               have hfz61_0 := blk_frozen BK182.out 0
               have hfz61_1 := blk_frozen BK182.out 1
               have hfz61_2 := blk_frozen BK182.out 2
               have hfz61_3 := blk_frozen BK182.out 3
               have hfz61_4 := blk_frozen BK182.out 4
               have hfz61_5 := blk_frozen BK182.out 5
               go_wp2_with (first | ((with_reducible refine gate_callee (f := 50) rfl ?_); refine goesL_ (some 75) rfl rfl Tryd.func50 (by kernel_rfl) rfl #[.slice Ao34 t183.length co34, .int .i64 ((rd_T82 l0_1 x4_1).f1), .int .i64 ((rd_T82 l0_1 x4_1).f2)] rfl (by (try simp only [List.map_toArray, List.map_cons, List.map_nil]); first | done | rfl | (simp only [List.length_drop, List.length_take]; rfl)) ?_; (with_reducible refine (marks_Set.calls _ _ t183 ((rd_T82 l0_1 x4_1).f1) ((rd_T82 l0_1 x4_1).f2) t190 t191 _ ?side1 ?side2 A40.out).mono ?_); (case side1 => repeat (first | exact (Kd.R_reads' HO_6.out).2.2 | (with_reducible refine Kd.C_alloc ?_ _) | (with_reducible refine Kd.C_drewN ?_ _) | (with_reducible refine Kd.C_drew ?_))); (case side2 => exact (Kd.R_reads' HO_6.out).2.1); rintro e w62 ⟨v192, rfl, ho0, hb⟩; refine ⟨_, rfl, ?_⟩; have n0_ := Aside0.mk (Kd.R_elder' (by (with_reducible repeat (first | apply qa | apply qc | apply qb)); exact HO_3.out) (Kd.R_base ho0) hb); have n1_ := Aside0.mk (Kd.R_elder' (by (with_reducible repeat (first | apply qa | apply qc | apply qb)); exact HO_6.out) (Kd.R_base ho0) hb); have n2_ := Aside0.mk (Kd.R_elder' (by (with_reducible repeat (first | apply qa | apply qc | apply qb)); exact HO_10.out) (Kd.R_base ho0) hb); have n3_ := Aside0.mk (Kd.R_lower (Kd.R_new' (Kd.R_new' (Kd.R_new' ho0 (Kd.R_lt (by (with_reducible repeat (first | apply qa | apply qc | apply qb)); exact HO_3.out))) (Kd.R_lt (by (with_reducible repeat (first | apply qa | apply qc | apply qb)); exact HO_6.out))) (Kd.R_lt (by (with_reducible repeat (first | apply qa | apply qc | apply qb)); exact HO_10.out))) (below_size (by repeat (first | (with_reducible first | exact HB.out | apply q7 | apply q8 | apply q9 | refine below_set ?_ GE175.out | refine below_set ?_ GE182.out) | exact HB.out)))); have n4_ := Aside0.mk (blk_below (g := gb175) (o := .cells #[.slice A0_0 l0_0.length c0_0, .slice (some ad181) l0_1.length c0_1] 76 (0, 0)) (by (with_reducible repeat (first | refine q4 ?_ _ | refine q5 ?_ | refine q6 ?_ _)); exact BK175.out) hb); have n5_ := Aside0.mk (blk_below (g := gb182) (o := .cells #[.int .i64 ((rd_T82 l0_1 x4_1).f0), .int .i64 ((rd_T82 l0_1 x4_1).f1), .int .i64 ((rd_T82 l0_1 x4_1).f2), .int .i64 ((rd_T82 l0_1 x4_1).f3.f0), .int .i64 ((rd_T82 l0_1 x4_1).f3.f1), .string ((rd_T82 l0_1 x4_1).f3.f2)] 82 (0, 0)) (by (with_reducible repeat (first | refine q4 ?_ _ | refine q5 ?_ | refine q6 ?_ _)); exact BK182.out) hb); have n6_ := Aside0.mk (below_step (by repeat (first | (with_reducible first | exact HB.out | apply q7 | apply q8 | apply q9 | refine below_set ?_ GE175.out | refine below_set ?_ GE182.out) | exact HB.out)) hb); clear HO_3; clear HO_6; clear HO_10; clear BK175; clear BK182; clear HB; have HO_3 := n0_; have HO_6 := n1_; have HO_10 := n2_; have HO193 := n3_; have BK175 := n4_; have BK182 := n5_; have HB := n6_; clear n0_ n1_ n2_ n3_ n4_ n5_ n6_; (try clear hb); (try clear hb2); (try clear hk); (try clear hi); (try clear ho0)))
               go_meet
               case rel => exact ⟨_, (1), (t190), (([] : List (S150))), (t191), (by first | rfl | (simp; done) | (simp [*]; done)), (by first | rfl | (simp; done) | (simp [*]; done)), H', ⟨by have := HK1.out; have := HJ12.out; have := HJ36.out; first | omega | exact Nat.le_refl _⟩, ⟨by (with_reducible repeat (first | apply qa | apply qc | apply qb)); exact Kd.R_mono HO_3.out (fun _ hk => ⟨hk.1.1, ⟨hk.2, hk.1.2⟩⟩)⟩, ⟨by (with_reducible repeat (first | apply qa | apply qc | apply qb)); exact Kd.R_mono HO_6.out (fun _ hk => ⟨hk.1.1, ⟨hk.2, hk.1.2⟩⟩)⟩, ⟨by (with_reducible repeat (first | apply qa | apply qc | apply qb)); exact Kd.R_mono HO193.out (fun _ hk => ⟨hk.1.1.2, ⟨hk.1.2, hk.2⟩⟩)⟩, ⟨by (with_reducible repeat (first | apply qa | apply qc | apply qb)); exact Kd.R_mono HO_10.out (fun _ hk => ⟨hk.1.1, ⟨hk.1.2, hk.2⟩⟩)⟩, ⟨by (with_reducible repeat (first | refine q4 ?_ _ | refine q5 ?_ | refine q6 ?_ _)); exact BK175.out⟩, ⟨by (with_reducible repeat (first | refine q4 ?_ _ | refine q5 ?_ | refine q6 ?_ _)); exact BK182.out⟩, ⟨by repeat (first | (with_reducible first | exact HB.out | apply q7 | apply q8 | apply q9 | refine below_set ?_ GE175.out | refine below_set ?_ GE182.out) | exact HB.out)⟩⟩
             ·
              replace c39 := Bool.eq_false_iff.mpr c39
              subst c39
              have H1 : (if t189 = 2 then ((marks_Get.f t183 ((rd_T82 l0_1 x4_1).f1)).bind fun bt199 => (if t186 = true then ((quillref6_Get.f kj36 x3_1 ((rd_T82 l0_1 x4_1).f1)).bind fun t201 => (if t201 ≥ 0 then ((quillref6_Get.f kj36 x3_1 ((rd_T82 l0_1 x4_1).f1)).bind fun t202 => (quilllaw6_MarksExact.j3 kj36 x3_1 x4_1 t183 0 bt199.1 bt199.2 t202 l0_0 l0_1)) else (quilllaw6_MarksExact.j3 kj36 x3_1 x4_1 t183 3 bt199.1 bt199.2 0 l0_0 l0_1))) else (quilllaw6_MarksExact.j3 kj36 x3_1 x4_1 t183 1 bt199.1 bt199.2 0 l0_0 l0_1))) else ((marks_Move.f kj36 t183 ((rd_T82 l0_1 x4_1).f3.f0) ((rd_T82 l0_1 x4_1).f3.f1) ((rd_T82 l0_1 x4_1).f3.f2)).bind fun bt205 => (if t186 = true then ((quillref4_Moves.f kj36 ((rd_T82 l0_1 x4_1).f3.f0) ((rd_T82 l0_1 x4_1).f3.f1) ((rd_T82 l0_1 x4_1).f3.f2)).bind fun t209 => (if t209 = true then ((quillref6_Move.f kj36 x3_1 ((rd_T82 l0_1 x4_1).f3.f0) ((rd_T82 l0_1 x4_1).f3.f1) ((rd_T82 l0_1 x4_1).f3.f2)).bind fun t210 => (quilllaw6_MarksExact.j4 kj36 x3_1 x4_1 t183 0 bt205.1 t210 bt205.2 l0_0 l0_1)) else (quilllaw6_MarksExact.j4 kj36 x3_1 x4_1 t183 1 bt205.1 ([] : List (S150)) bt205.2 l0_0 l0_1))) else (quilllaw6_MarksExact.j4 kj36 x3_1 x4_1 t183 1 bt205.1 ([] : List (S150)) bt205.2 l0_0 l0_1)))) = some r := by rw [if_neg (show ¬ (false = true) by decide)] at H; exact H
              clear H
              have H := H1
              clear H1
              by_cases c63 : t189 = 2
              ·
               rw [if_pos c63] at H
               have c63b0 : (t189 == 2) = true := beq_iff_eq.mpr c63
               have c63b1 : (t189 != 2) = false := bne_eq_false_iff_eq.mpr c63
               clear c63
               replace H := Option.bind_eq_some_iff.mp H
               obtain ⟨⟨t199, t200⟩, A640, H⟩ := H
               replace H : (if t186 = true then ((quillref6_Get.f kj36 x3_1 ((rd_T82 l0_1 x4_1).f1)).bind fun t201 => (if t201 ≥ 0 then ((quillref6_Get.f kj36 x3_1 ((rd_T82 l0_1 x4_1).f1)).bind fun t202 => (quilllaw6_MarksExact.j3 kj36 x3_1 x4_1 t183 0 t199 t200 t202 l0_0 l0_1)) else (quilllaw6_MarksExact.j3 kj36 x3_1 x4_1 t183 3 t199 t200 0 l0_0 l0_1))) else (quilllaw6_MarksExact.j3 kj36 x3_1 x4_1 t183 1 t199 t200 0 l0_0 l0_1)) = some r := H
               have A64 := Aside0.mk A640
               clear A640
               have HC65 := Aside0.mk H
               clear H
               have hnb66 := NB182_175.out
               have hnc66 := NB175_182.out
               have hcz67_0 : wc.cell? ⟨gb182, 0, none⟩ = some (.int .i64 ((rd_T82 l0_1 x4_1).f0)) := (blk_cell BK182.out 0).trans rfl
               have hcz67_1 : wc.cell? ⟨gb182, 1, none⟩ = some (.int .i64 ((rd_T82 l0_1 x4_1).f1)) := (blk_cell BK182.out 1).trans rfl
               have hcz67_2 : wc.cell? ⟨gb182, 2, none⟩ = some (.int .i64 ((rd_T82 l0_1 x4_1).f2)) := (blk_cell BK182.out 2).trans rfl
               have hcz67_3 : wc.cell? ⟨gb182, 3, none⟩ = some (.int .i64 ((rd_T82 l0_1 x4_1).f3.f0)) := (blk_cell BK182.out 3).trans rfl
               have hcz67_4 : wc.cell? ⟨gb182, 4, none⟩ = some (.int .i64 ((rd_T82 l0_1 x4_1).f3.f1)) := (blk_cell BK182.out 4).trans rfl
               have hcz67_5 : wc.cell? ⟨gb182, 5, none⟩ = some (.string ((rd_T82 l0_1 x4_1).f3.f2)) := (blk_cell BK182.out 5).trans rfl
               have hfz67_0 := blk_frozen BK182.out 0
               have hfz67_1 := blk_frozen BK182.out 1
               have hfz67_2 := blk_frozen BK182.out 2
               have hfz67_3 := blk_frozen BK182.out 3
               have hfz67_4 := blk_frozen BK182.out 4
               have hfz67_5 := blk_frozen BK182.out 5
               go_upto_if 104 with (first | ((with_reducible refine gate_callee (f := 53) rfl ?_); refine goesL_ (some 101) rfl rfl Tryd.func53 (by kernel_rfl) rfl #[.slice Ao34 t183.length co34, .int .i64 ((rd_T82 l0_1 x4_1).f1)] rfl (by (try simp only [List.map_toArray, List.map_cons, List.map_nil]); first | done | rfl | (simp only [List.length_drop, List.length_take]; rfl)) ?_; (with_reducible refine (marks_Get.calls _ _ t183 ((rd_T82 l0_1 x4_1).f1) t199 t200 _ ?side1 ?side2 A64.out).mono ?_); (case side1 => repeat (first | exact (Kd.R_reads' HO_6.out).2.2 | (with_reducible refine Kd.C_alloc ?_ _) | (with_reducible refine Kd.C_drewN ?_ _) | (with_reducible refine Kd.C_drew ?_))); (case side2 => exact (Kd.R_reads' HO_6.out).2.1); rintro e w68 ⟨rfl, hb⟩; refine ⟨_, rfl, ?_⟩; have n0_ := Aside0.mk (Kd.R_below (by (with_reducible repeat (first | apply qa | apply qc | apply qb)); exact HO_3.out) hb); have n1_ := Aside0.mk (Kd.R_below (by (with_reducible repeat (first | apply qa | apply qc | apply qb)); exact HO_6.out) hb); have n2_ := Aside0.mk (Kd.R_below (by (with_reducible repeat (first | apply qa | apply qc | apply qb)); exact HO_10.out) hb); have n3_ := Aside0.mk (blk_below (g := gb175) (o := .cells #[.slice A0_0 l0_0.length c0_0, .slice (some ad181) l0_1.length c0_1] 76 (0, 0)) (by (with_reducible repeat (first | refine q4 ?_ _ | refine q5 ?_ | refine q6 ?_ _)); exact BK175.out) hb); have n4_ := Aside0.mk (blk_below (g := gb182) (o := .cells #[.int .i64 ((rd_T82 l0_1 x4_1).f0), .int .i64 ((rd_T82 l0_1 x4_1).f1), .int .i64 ((rd_T82 l0_1 x4_1).f2), .int .i64 ((rd_T82 l0_1 x4_1).f3.f0), .int .i64 ((rd_T82 l0_1 x4_1).f3.f1), .string ((rd_T82 l0_1 x4_1).f3.f2)] 82 (0, 0)) (by (with_reducible repeat (first | refine q4 ?_ _ | refine q5 ?_ | refine q6 ?_ _)); exact BK182.out) hb); have n5_ := Aside0.mk (below_step (by repeat (first | (with_reducible first | exact HB.out | apply q7 | apply q8 | apply q9 | refine below_set ?_ GE175.out | refine below_set ?_ GE182.out) | exact HB.out)) hb); clear HO_3; clear HO_6; clear HO_10; clear BK175; clear BK182; clear HB; have HO_3 := n0_; have HO_6 := n1_; have HO_10 := n2_; have BK175 := n3_; have BK182 := n4_; have HB := n5_; clear n0_ n1_ n2_ n3_ n4_ n5_; (try clear hb); (try clear hb2); (try clear hk); (try clear hi)))
               (try simp only [Act.put, List.setIfInBounds_toArray, List.set_cons_zero, List.set_cons_succ])
               go_cut [8, 14] (fun v8 v14 wc => ∃ (kq : Nat) (x8_64 : Int) (x14_64 : Int), v8 = .int .i64 x8_64 ∧ v14 = .int .i64 x14_64 ∧ Aside0 (quilllaw6_MarksExact.j3 kq x3_1 x4_1 t183 x8_64 t199 t200 x14_64 l0_0 l0_1 = some r) ∧ Aside0 (kq ≤ kj36) ∧ Aside0 (Kd.R k150 150 wc w.heap.size (fun k_ => some k_ ≠ ((.slice Ao34 t183.length co34) : Value).ownBlock) (.slice Ao31 x3_1.length co31) x3_1) ∧ Aside0 (Kd.R k150 150 wc w.heap.size (fun k_ => some k_ ≠ ((.slice Ao31 x3_1.length co31) : Value).ownBlock) (.slice Ao34 t183.length co34) t183) ∧ Aside0 (wc.heap[gb175]? = some (.cells #[(.slice A0_0 l0_0.length c0_0), (.slice (some ad181) l0_1.length c0_1)] 76 (0, 0))) ∧ Aside0 (wc.heap[gb182]? = some (.cells #[.int .i64 ((rd_T82 l0_1 x4_1).f0), .int .i64 ((rd_T82 l0_1 x4_1).f1), .int .i64 ((rd_T82 l0_1 x4_1).f2), .int .i64 ((rd_T82 l0_1 x4_1).f3.f0), .int .i64 ((rd_T82 l0_1 x4_1).f3.f1), .string ((rd_T82 l0_1 x4_1).f3.f2)] 82 (0, 0))) ∧ Aside0 (Below w.heap.size w wc))
               case first =>
                have H := HC65.out
                clear HC65
                by_cases c69 : t186 = true
                ·
                 subst c69
                 have H1 : ((quillref6_Get.f kj36 x3_1 ((rd_T82 l0_1 x4_1).f1)).bind fun t201 => (if t201 ≥ 0 then ((quillref6_Get.f kj36 x3_1 ((rd_T82 l0_1 x4_1).f1)).bind fun t202 => (quilllaw6_MarksExact.j3 kj36 x3_1 x4_1 t183 0 t199 t200 t202 l0_0 l0_1)) else (quilllaw6_MarksExact.j3 kj36 x3_1 x4_1 t183 3 t199 t200 0 l0_0 l0_1))) = some r := by rw [if_pos rfl] at H; exact H
                 clear H
                 have H := H1
                 clear H1
                 replace H := Option.bind_eq_some_iff.mp H
                 obtain ⟨t201, A700, H⟩ := H
                 replace H : (if t201 ≥ 0 then ((quillref6_Get.f kj36 x3_1 ((rd_T82 l0_1 x4_1).f1)).bind fun t202 => (quilllaw6_MarksExact.j3 kj36 x3_1 x4_1 t183 0 t199 t200 t202 l0_0 l0_1)) else (quilllaw6_MarksExact.j3 kj36 x3_1 x4_1 t183 3 t199 t200 0 l0_0 l0_1)) = some r := H
                 have A70 := Aside0.mk A700
                 clear A700
                 by_cases c71 : t201 ≥ 0
                 ·
                  rw [if_pos c71] at H
                  have c71b0 : decide (0 ≤ t201) = true := decide_eq_true c71
                  clear c71
                  (first | rw [c71b0] | (simp only [i64_w, i32_w]; rw [c71b0]) | skip)
                  replace H := Option.bind_eq_some_iff.mp H
                  obtain ⟨t202, A720, H⟩ := H
                  replace H : (quilllaw6_MarksExact.j3 kj36 x3_1 x4_1 t183 0 t199 t200 t202 l0_0 l0_1) = some r := H
                  have A72 := Aside0.mk A720
                  clear A720
                  have H' := Aside0.mk H
                  clear H
                  have hnb73 := NB182_175.out
                  have hnc73 := NB175_182.out
                  have hcz74_0 : w68.cell? ⟨gb182, 0, none⟩ = some (.int .i64 ((rd_T82 l0_1 x4_1).f0)) := (blk_cell BK182.out 0).trans rfl
                  have hcz74_1 : w68.cell? ⟨gb182, 1, none⟩ = some (.int .i64 ((rd_T82 l0_1 x4_1).f1)) := (blk_cell BK182.out 1).trans rfl
                  have hcz74_2 : w68.cell? ⟨gb182, 2, none⟩ = some (.int .i64 ((rd_T82 l0_1 x4_1).f2)) := (blk_cell BK182.out 2).trans rfl
                  have hcz74_3 : w68.cell? ⟨gb182, 3, none⟩ = some (.int .i64 ((rd_T82 l0_1 x4_1).f3.f0)) := (blk_cell BK182.out 3).trans rfl
                  have hcz74_4 : w68.cell? ⟨gb182, 4, none⟩ = some (.int .i64 ((rd_T82 l0_1 x4_1).f3.f1)) := (blk_cell BK182.out 4).trans rfl
                  have hcz74_5 : w68.cell? ⟨gb182, 5, none⟩ = some (.string ((rd_T82 l0_1 x4_1).f3.f2)) := (blk_cell BK182.out 5).trans rfl
                  have hfz74_0 := blk_frozen BK182.out 0
                  have hfz74_1 := blk_frozen BK182.out 1
                  have hfz74_2 := blk_frozen BK182.out 2
                  have hfz74_3 := blk_frozen BK182.out 3
                  have hfz74_4 := blk_frozen BK182.out 4
                  have hfz74_5 := blk_frozen BK182.out 5
                  go_wp2_with (first | ((with_reducible refine gate_callee (f := 54) rfl ?_); refine goesL_ (some 108) rfl rfl Tryd.func54 (by kernel_rfl) rfl #[.slice Ao31 x3_1.length co31, .int .i64 ((rd_T82 l0_1 x4_1).f1)] rfl (by (try simp only [List.map_toArray, List.map_cons, List.map_nil]); first | done | rfl | (simp only [List.length_drop, List.length_take]; rfl)) ?_; (with_reducible refine (quillref6_Get.calls kj36 _ _ x3_1 ((rd_T82 l0_1 x4_1).f1) t201 _ ?side1 ?side2 A70.out).mono ?_); (case side1 => repeat (first | exact (Kd.R_reads' HO_3.out).2.2 | (with_reducible refine Kd.C_alloc ?_ _) | (with_reducible refine Kd.C_drewN ?_ _) | (with_reducible refine Kd.C_drew ?_))); (case side2 => exact (Kd.R_reads' HO_3.out).2.1); rintro e w' ⟨rfl, ⟨nd, rfl⟩⟩; refine ⟨_, rfl, ?_⟩) | ((with_reducible refine gate_callee (f := 54) rfl ?_); refine goesL_ (some 113) rfl rfl Tryd.func54 (by kernel_rfl) rfl #[.slice Ao31 x3_1.length co31, .int .i64 ((rd_T82 l0_1 x4_1).f1)] rfl (by (try simp only [List.map_toArray, List.map_cons, List.map_nil]); first | done | rfl | (simp only [List.length_drop, List.length_take]; rfl)) ?_; (with_reducible refine (quillref6_Get.calls kj36 _ _ x3_1 ((rd_T82 l0_1 x4_1).f1) t202 _ ?side1 ?side2 A72.out).mono ?_); (case side1 => repeat (first | exact (Kd.R_reads' HO_3.out).2.2 | (with_reducible refine Kd.C_alloc ?_ _) | (with_reducible refine Kd.C_drewN ?_ _) | (with_reducible refine Kd.C_drew ?_))); (case side2 => exact (Kd.R_reads' HO_3.out).2.1); rintro e w' ⟨rfl, ⟨nd, rfl⟩⟩; refine ⟨_, rfl, ?_⟩))
                  go_meet
                  case rel => exact ⟨_, (0), (t202), (by first | rfl | (simp; done) | (simp [*]; done)), (by first | rfl | (simp; done) | (simp [*]; done)), H', ⟨by have := HK1.out; have := HJ12.out; have := HJ36.out; first | omega | exact Nat.le_refl _⟩, ⟨by (with_reducible repeat (first | apply qa | apply qc | apply qb)); exact Kd.R_mono HO_3.out (fun _ hk => hk.1)⟩, ⟨by (with_reducible repeat (first | apply qa | apply qc | apply qb)); exact Kd.R_mono HO_6.out (fun _ hk => hk.1)⟩, ⟨by (with_reducible repeat (first | refine q4 ?_ _ | refine q5 ?_ | refine q6 ?_ _)); exact BK175.out⟩, ⟨by (with_reducible repeat (first | refine q4 ?_ _ | refine q5 ?_ | refine q6 ?_ _)); exact BK182.out⟩, ⟨by repeat (first | (with_reducible first | exact HB.out | apply q7 | apply q8 | apply q9 | refine below_set ?_ GE175.out | refine below_set ?_ GE182.out) | exact HB.out)⟩⟩
                 ·
                  rw [if_neg c71] at H
                  have c71b0 : decide (0 ≤ t201) = false := decide_eq_false c71
                  clear c71
                  (first | rw [c71b0] | (simp only [i64_w, i32_w]; rw [c71b0]) | skip)
                  have H' := Aside0.mk H
                  clear H
                  have hnb75 := NB182_175.out
                  have hnc75 := NB175_182.out
                  have hcz76_0 : w68.cell? ⟨gb182, 0, none⟩ = some (.int .i64 ((rd_T82 l0_1 x4_1).f0)) := (blk_cell BK182.out 0).trans rfl
                  have hcz76_1 : w68.cell? ⟨gb182, 1, none⟩ = some (.int .i64 ((rd_T82 l0_1 x4_1).f1)) := (blk_cell BK182.out 1).trans rfl
                  have hcz76_2 : w68.cell? ⟨gb182, 2, none⟩ = some (.int .i64 ((rd_T82 l0_1 x4_1).f2)) := (blk_cell BK182.out 2).trans rfl
                  have hcz76_3 : w68.cell? ⟨gb182, 3, none⟩ = some (.int .i64 ((rd_T82 l0_1 x4_1).f3.f0)) := (blk_cell BK182.out 3).trans rfl
                  have hcz76_4 : w68.cell? ⟨gb182, 4, none⟩ = some (.int .i64 ((rd_T82 l0_1 x4_1).f3.f1)) := (blk_cell BK182.out 4).trans rfl
                  have hcz76_5 : w68.cell? ⟨gb182, 5, none⟩ = some (.string ((rd_T82 l0_1 x4_1).f3.f2)) := (blk_cell BK182.out 5).trans rfl
                  have hfz76_0 := blk_frozen BK182.out 0
                  have hfz76_1 := blk_frozen BK182.out 1
                  have hfz76_2 := blk_frozen BK182.out 2
                  have hfz76_3 := blk_frozen BK182.out 3
                  have hfz76_4 := blk_frozen BK182.out 4
                  have hfz76_5 := blk_frozen BK182.out 5
                  go_wp2_with (first | ((with_reducible refine gate_callee (f := 54) rfl ?_); refine goesL_ (some 108) rfl rfl Tryd.func54 (by kernel_rfl) rfl #[.slice Ao31 x3_1.length co31, .int .i64 ((rd_T82 l0_1 x4_1).f1)] rfl (by (try simp only [List.map_toArray, List.map_cons, List.map_nil]); first | done | rfl | (simp only [List.length_drop, List.length_take]; rfl)) ?_; (with_reducible refine (quillref6_Get.calls kj36 _ _ x3_1 ((rd_T82 l0_1 x4_1).f1) t201 _ ?side1 ?side2 A70.out).mono ?_); (case side1 => repeat (first | exact (Kd.R_reads' HO_3.out).2.2 | (with_reducible refine Kd.C_alloc ?_ _) | (with_reducible refine Kd.C_drewN ?_ _) | (with_reducible refine Kd.C_drew ?_))); (case side2 => exact (Kd.R_reads' HO_3.out).2.1); rintro e w' ⟨rfl, ⟨nd, rfl⟩⟩; refine ⟨_, rfl, ?_⟩))
                  go_meet
                  case rel => exact ⟨_, (3), (0), (by first | rfl | (simp; done) | (simp [*]; done)), (by first | rfl | (simp; done) | (simp [*]; done)), H', ⟨by have := HK1.out; have := HJ12.out; have := HJ36.out; first | omega | exact Nat.le_refl _⟩, ⟨by (with_reducible repeat (first | apply qa | apply qc | apply qb)); exact Kd.R_mono HO_3.out (fun _ hk => hk.1)⟩, ⟨by (with_reducible repeat (first | apply qa | apply qc | apply qb)); exact Kd.R_mono HO_6.out (fun _ hk => hk.1)⟩, ⟨by (with_reducible repeat (first | refine q4 ?_ _ | refine q5 ?_ | refine q6 ?_ _)); exact BK175.out⟩, ⟨by (with_reducible repeat (first | refine q4 ?_ _ | refine q5 ?_ | refine q6 ?_ _)); exact BK182.out⟩, ⟨by repeat (first | (with_reducible first | exact HB.out | apply q7 | apply q8 | apply q9 | refine below_set ?_ GE175.out | refine below_set ?_ GE182.out) | exact HB.out)⟩⟩
                ·
                 replace c69 := Bool.eq_false_iff.mpr c69
                 subst c69
                 have H1 : (quilllaw6_MarksExact.j3 kj36 x3_1 x4_1 t183 1 t199 t200 0 l0_0 l0_1) = some r := by rw [if_neg (show ¬ (false = true) by decide)] at H; exact H
                 clear H
                 have H := H1
                 clear H1
                 have H' := Aside0.mk H
                 clear H
                 go_wp2
                 go_meet
                 case rel => exact ⟨_, (1), (0), (by first | rfl | (simp; done) | (simp [*]; done)), (by first | rfl | (simp; done) | (simp [*]; done)), H', ⟨by have := HK1.out; have := HJ12.out; have := HJ36.out; first | omega | exact Nat.le_refl _⟩, ⟨by (with_reducible repeat (first | apply qa | apply qc | apply qb)); exact Kd.R_mono HO_3.out (fun _ hk => hk.1)⟩, ⟨by (with_reducible repeat (first | apply qa | apply qc | apply qb)); exact Kd.R_mono HO_6.out (fun _ hk => hk.1)⟩, ⟨by (with_reducible repeat (first | refine q4 ?_ _ | refine q5 ?_ | refine q6 ?_ _)); exact BK175.out⟩, ⟨by (with_reducible repeat (first | refine q4 ?_ _ | refine q5 ?_ | refine q6 ?_ _)); exact BK182.out⟩, ⟨by repeat (first | (with_reducible first | exact HB.out | apply q7 | apply q8 | apply q9 | refine below_set ?_ GE175.out | refine below_set ?_ GE182.out) | exact HB.out)⟩⟩
               case rest =>
                clear HC65
                try clear c1
                try clear p1
                try clear q1
                try clear hx1
                try clear c2
                try clear p2
                try clear c3
                try clear c4
                try clear c5
                try clear c6
                try clear c7
                try clear c14
                try clear c14b0
                try clear c17
                try clear c18
                try clear c18b0
                try clear p18
                try clear q18
                try clear hx18
                try clear c19
                try clear c19b0
                try clear c24
                try clear c24b0
                try clear c24b1
                try clear c24b2
                try clear c29
                try clear c38
                try clear c38b0
                try clear c38b1
                try clear c39
                try clear c41
                try clear c43
                try clear c45
                try clear c46
                try clear c47
                try clear c48
                try clear c49
                try clear c50
                try clear c52
                try clear c53
                try clear c54
                try clear c56
                try clear c60
                try clear c63
                try clear c63b0
                try clear c63b1
                try clear c66
                try clear c69
                try clear c71
                try clear c71b0
                try clear c73
                try clear c75
                try clear hcz11_0
                try clear hcz11_1
                try clear hcz15_0
                try clear hcz15_1
                try clear hcz16_0
                try clear hcz16_1
                try clear hcz27_0
                try clear hcz27_1
                try clear hcz30_0
                try clear hcz30_1
                try clear hcz30_2
                try clear hcz30_3
                try clear hcz30_4
                try clear hcz30_5
                try clear hcz36_0
                try clear hcz36_1
                try clear hcz36_2
                try clear hcz36_3
                try clear hcz36_4
                try clear hcz36_5
                try clear hcz48_0
                try clear hcz48_1
                try clear hcz48_2
                try clear hcz48_3
                try clear hcz48_4
                try clear hcz48_5
                try clear hcz50_0
                try clear hcz50_1
                try clear hcz50_2
                try clear hcz50_3
                try clear hcz50_4
                try clear hcz50_5
                try clear hcz53_0
                try clear hcz53_1
                try clear hcz53_2
                try clear hcz53_3
                try clear hcz53_4
                try clear hcz53_5
                try clear hcz55_0
                try clear hcz55_1
                try clear hcz55_2
                try clear hcz55_3
                try clear hcz55_4
                try clear hcz55_5
                try clear hcz57_0
                try clear hcz57_1
                try clear hcz57_2
                try clear hcz57_3
                try clear hcz57_4
                try clear hcz57_5
                try clear hcz59_0
                try clear hcz59_1
                try clear hcz59_2
                try clear hcz59_3
                try clear hcz59_4
                try clear hcz59_5
                try clear hcz5_0
                try clear hcz5_1
                try clear hcz61_0
                try clear hcz61_1
                try clear hcz61_2
                try clear hcz61_3
                try clear hcz61_4
                try clear hcz61_5
                try clear hcz67_0
                try clear hcz67_1
                try clear hcz67_2
                try clear hcz67_3
                try clear hcz67_4
                try clear hcz67_5
                try clear hcz74_0
                try clear hcz74_1
                try clear hcz74_2
                try clear hcz74_3
                try clear hcz74_4
                try clear hcz74_5
                try clear hcz76_0
                try clear hcz76_1
                try clear hcz76_2
                try clear hcz76_3
                try clear hcz76_4
                try clear hcz76_5
                try clear hcz9_0
                try clear hcz9_1
                try clear hfz11_0
                try clear hfz11_1
                try clear hfz15_0
                try clear hfz15_1
                try clear hfz16_0
                try clear hfz16_1
                try clear hfz27_0
                try clear hfz27_1
                try clear hfz30_0
                try clear hfz30_1
                try clear hfz30_2
                try clear hfz30_3
                try clear hfz30_4
                try clear hfz30_5
                try clear hfz36_0
                try clear hfz36_1
                try clear hfz36_2
                try clear hfz36_3
                try clear hfz36_4
                try clear hfz36_5
                try clear hfz48_0
                try clear hfz48_1
                try clear hfz48_2
                try clear hfz48_3
                try clear hfz48_4
                try clear hfz48_5
                try clear hfz50_0
                try clear hfz50_1
                try clear hfz50_2
                try clear hfz50_3
                try clear hfz50_4
                try clear hfz50_5
                try clear hfz53_0
                try clear hfz53_1
                try clear hfz53_2
                try clear hfz53_3
                try clear hfz53_4
                try clear hfz53_5
                try clear hfz55_0
                try clear hfz55_1
                try clear hfz55_2
                try clear hfz55_3
                try clear hfz55_4
                try clear hfz55_5
                try clear hfz57_0
                try clear hfz57_1
                try clear hfz57_2
                try clear hfz57_3
                try clear hfz57_4
                try clear hfz57_5
                try clear hfz59_0
                try clear hfz59_1
                try clear hfz59_2
                try clear hfz59_3
                try clear hfz59_4
                try clear hfz59_5
                try clear hfz5_0
                try clear hfz5_1
                try clear hfz61_0
                try clear hfz61_1
                try clear hfz61_2
                try clear hfz61_3
                try clear hfz61_4
                try clear hfz61_5
                try clear hfz67_0
                try clear hfz67_1
                try clear hfz67_2
                try clear hfz67_3
                try clear hfz67_4
                try clear hfz67_5
                try clear hfz74_0
                try clear hfz74_1
                try clear hfz74_2
                try clear hfz74_3
                try clear hfz74_4
                try clear hfz74_5
                try clear hfz76_0
                try clear hfz76_1
                try clear hfz76_2
                try clear hfz76_3
                try clear hfz76_4
                try clear hfz76_5
                try clear hfz9_0
                try clear hfz9_1
                try clear hx181_0
                try clear hx181_1
                try clear hx181_2
                try clear hx181_3
                try clear hx181_4
                try clear hx181_5
                try clear p1
                try clear p18
                try clear p181
                try clear p2
                try clear q1
                try clear q18
                try clear q181
                obtain ⟨kq, x8_64, x14_64, rfl, rfl, HA, HJ64, HO_3, HO_6, BK175, BK182, HB⟩ := hcut
                cases kq with
                | zero => exact absurd HA.out (by simp [quilllaw6_MarksExact.j3])
                | succ kj64 =>
                 have H := HA.out
                 clear HA
                 simp only [quilllaw6_MarksExact.j3] at H
                 replace H := Option.bind_eq_some_iff.mp H
                 obtain ⟨t203, A770, H⟩ := H
                 replace H : (if t203 = x8_64 then (if t199 = x14_64 then ((quillref0_EqMarks.f kj64 t183 x3_1).bind fun t204 => (if t204 = true then (quilllaw6_MarksExact.l0 kj64 x3_1 (wrap64 (x4_1 + 1)) l0_0 l0_1) else (some false))) else (some false)) else (some false)) = some r := H
                 have A77 := Aside0.mk A770
                 clear A770
                 by_cases c78 : t203 = x8_64
                 ·
                  rw [if_pos c78] at H
                  have c78s := Aside0.mk c78
                  have c78b0 : (t203 == x8_64) = true := beq_iff_eq.mpr c78
                  have c78b1 : (t203 != x8_64) = false := bne_eq_false_iff_eq.mpr c78
                  clear c78
                  by_cases c79 : t199 = x14_64
                  ·
                   rw [if_pos c79] at H
                   have c79s := Aside0.mk c79
                   have c79b0 : (t199 == x14_64) = true := beq_iff_eq.mpr c79
                   have c79b1 : (t199 != x14_64) = false := bne_eq_false_iff_eq.mpr c79
                   clear c79
                   replace H := Option.bind_eq_some_iff.mp H
                   obtain ⟨t204, A800, H⟩ := H
                   replace H : (if t204 = true then (quilllaw6_MarksExact.l0 kj64 x3_1 (wrap64 (x4_1 + 1)) l0_0 l0_1) else (some false)) = some r := H
                   have A80 := Aside0.mk A800
                   clear A800
                   by_cases c81 : t204 = true
                   ·
                    subst c81
                    have H1 : (quilllaw6_MarksExact.l0 kj64 x3_1 (wrap64 (x4_1 + 1)) l0_0 l0_1) = some r := by rw [if_pos rfl] at H; exact H
                    clear H
                    have H := H1
                    clear H1
                    have H' := Aside0.mk H
                    clear H
                    go_wp2_with (first | ((with_reducible refine gate_callee (f := 48) rfl ?_); refine goesL_ (some 115) rfl rfl Tryd.func48 (by kernel_rfl) rfl #[.int .i64 t200] rfl (by (try simp only [List.map_toArray, List.map_cons, List.map_nil]); first | done | rfl | (simp only [List.length_drop, List.length_take]; rfl)) ?_; (with_reducible refine (quilllaw6_num.calls t200 t203 _ A77.out).mono ?_); rintro e w' ⟨rfl, ⟨nd, rfl⟩⟩; refine ⟨_, rfl, ?_⟩) | (go_at_call 55; (with_reducible refine (quillref0_EqMarks.calls kj64 _ _ t183 _ _ x3_1 true _ ?side1 ?side2 ?side3 ?side4 A80.out).mono ?_); (case side1 => repeat (first | exact (Kd.R_reads' HO_6.out).2.2 | (with_reducible refine Kd.C_alloc ?_ _) | (with_reducible refine Kd.C_drewN ?_ _) | (with_reducible refine Kd.C_drew ?_))); (case side2 => exact (Kd.R_reads' HO_6.out).2.1); (case side3 => repeat (first | exact (Kd.R_reads' HO_3.out).2.2 | (with_reducible refine Kd.C_alloc ?_ _) | (with_reducible refine Kd.C_drewN ?_ _) | (with_reducible refine Kd.C_drew ?_))); (case side4 => exact (Kd.R_reads' HO_3.out).2.1); rintro e w' ⟨rfl, ⟨nd, rfl⟩⟩))
                    go_roundg kj64
                    case measure => have := HK1.out; have := HJ12.out; have := HJ36.out; have := HJ64.out; omega
                    case rel => exact ⟨(x3_1), (wrap64 (x4_1 + 1)), (by first | rfl | (simp; done) | (simp [*]; done)), H', ⟨by have := HK1.out; have := HJ12.out; have := HJ36.out; have := HJ64.out; omega⟩, ⟨by (with_reducible repeat (first | apply qa | apply qc | apply qb)); exact Kd.R_mono HO_3.out (fun _ hk => trivial)⟩, ⟨by (with_reducible repeat (first | refine q4 ?_ _ | refine q5 ?_ | refine q6 ?_ _)); exact BK175.out⟩, ⟨by repeat (first | (with_reducible first | exact HB.out | apply q7 | apply q8 | apply q9 | refine below_set ?_ GE175.out | refine below_set ?_ GE182.out) | exact HB.out)⟩⟩
                   ·
                    replace c81 := Bool.eq_false_iff.mpr c81
                    subst c81
                    have H1 : (some false) = some r := by rw [if_neg (show ¬ (false = true) by decide)] at H; exact H
                    clear H
                    have H := H1
                    clear H1
                    exact absurd (H.trans (congrArg some HRT.out)) (by decide)
                  ·
                   rw [if_neg c79] at H
                   have c79b0 : (t199 == x14_64) = false := beq_eq_false_iff_ne.mpr c79
                   have c79b1 : (t199 != x14_64) = true := bne_iff_ne.mpr c79
                   exact absurd (H.trans (congrArg some HRT.out)) (by decide)
                 ·
                  rw [if_neg c78] at H
                  have c78b0 : (t203 == x8_64) = false := beq_eq_false_iff_ne.mpr c78
                  have c78b1 : (t203 != x8_64) = true := bne_iff_ne.mpr c78
                  exact absurd (H.trans (congrArg some HRT.out)) (by decide)
              ·
               rw [if_neg c63] at H
               have c63b0 : (t189 == 2) = false := beq_eq_false_iff_ne.mpr c63
               have c63b1 : (t189 != 2) = true := bne_iff_ne.mpr c63
               replace H := Option.bind_eq_some_iff.mp H
               obtain ⟨⟨t205, t208⟩, A820, H⟩ := H
               replace H : (if t186 = true then ((quillref4_Moves.f kj36 ((rd_T82 l0_1 x4_1).f3.f0) ((rd_T82 l0_1 x4_1).f3.f1) ((rd_T82 l0_1 x4_1).f3.f2)).bind fun t209 => (if t209 = true then ((quillref6_Move.f kj36 x3_1 ((rd_T82 l0_1 x4_1).f3.f0) ((rd_T82 l0_1 x4_1).f3.f1) ((rd_T82 l0_1 x4_1).f3.f2)).bind fun t210 => (quilllaw6_MarksExact.j4 kj36 x3_1 x4_1 t183 0 t205 t210 t208 l0_0 l0_1)) else (quilllaw6_MarksExact.j4 kj36 x3_1 x4_1 t183 1 t205 ([] : List (S150)) t208 l0_0 l0_1))) else (quilllaw6_MarksExact.j4 kj36 x3_1 x4_1 t183 1 t205 ([] : List (S150)) t208 l0_0 l0_1)) = some r := H
               have A82 := Aside0.mk A820
               clear A820
               by_cases c83 : t186 = true
               ·
                subst c83
                have H1 : ((quillref4_Moves.f kj36 ((rd_T82 l0_1 x4_1).f3.f0) ((rd_T82 l0_1 x4_1).f3.f1) ((rd_T82 l0_1 x4_1).f3.f2)).bind fun t209 => (if t209 = true then ((quillref6_Move.f kj36 x3_1 ((rd_T82 l0_1 x4_1).f3.f0) ((rd_T82 l0_1 x4_1).f3.f1) ((rd_T82 l0_1 x4_1).f3.f2)).bind fun t210 => (quilllaw6_MarksExact.j4 kj36 x3_1 x4_1 t183 0 t205 t210 t208 l0_0 l0_1)) else (quilllaw6_MarksExact.j4 kj36 x3_1 x4_1 t183 1 t205 ([] : List (S150)) t208 l0_0 l0_1))) = some r := by rw [if_pos rfl] at H; exact H
                clear H
                have H := H1
                clear H1
                replace H := Option.bind_eq_some_iff.mp H
                obtain ⟨t209, A840, H⟩ := H
                replace H : (if t209 = true then ((quillref6_Move.f kj36 x3_1 ((rd_T82 l0_1 x4_1).f3.f0) ((rd_T82 l0_1 x4_1).f3.f1) ((rd_T82 l0_1 x4_1).f3.f2)).bind fun t210 => (quilllaw6_MarksExact.j4 kj36 x3_1 x4_1 t183 0 t205 t210 t208 l0_0 l0_1)) else (quilllaw6_MarksExact.j4 kj36 x3_1 x4_1 t183 1 t205 ([] : List (S150)) t208 l0_0 l0_1)) = some r := H
                have A84 := Aside0.mk A840
                clear A840
                by_cases c85 : t209 = true
                ·
                 subst c85
                 have H1 : ((quillref6_Move.f kj36 x3_1 ((rd_T82 l0_1 x4_1).f3.f0) ((rd_T82 l0_1 x4_1).f3.f1) ((rd_T82 l0_1 x4_1).f3.f2)).bind fun t210 => (quilllaw6_MarksExact.j4 kj36 x3_1 x4_1 t183 0 t205 t210 t208 l0_0 l0_1)) = some r := by rw [if_pos rfl] at H; exact H
                 clear H
                 have H := H1
                 clear H1
                 replace H := Option.bind_eq_some_iff.mp H
                 obtain ⟨t210, A860, H⟩ := H
                 replace H : (quilllaw6_MarksExact.j4 kj36 x3_1 x4_1 t183 0 t205 t210 t208 l0_0 l0_1) = some r := H
                 have A86 := Aside0.mk A860
                 clear A860
                 have H' := Aside0.mk H
                 clear H
                 have hnb87 := NB182_175.out
                 have hnc87 := NB175_182.out
                 have hcz88_0 : wc.cell? ⟨gb182, 0, none⟩ = some (.int .i64 ((rd_T82 l0_1 x4_1).f0)) := (blk_cell BK182.out 0).trans rfl
                 have hcz88_1 : wc.cell? ⟨gb182, 1, none⟩ = some (.int .i64 ((rd_T82 l0_1 x4_1).f1)) := (blk_cell BK182.out 1).trans rfl
                 have hcz88_2 : wc.cell? ⟨gb182, 2, none⟩ = some (.int .i64 ((rd_T82 l0_1 x4_1).f2)) := (blk_cell BK182.out 2).trans rfl
                 have hcz88_3 : wc.cell? ⟨gb182, 3, none⟩ = some (.int .i64 ((rd_T82 l0_1 x4_1).f3.f0)) := (blk_cell BK182.out 3).trans rfl
                 have hcz88_4 : wc.cell? ⟨gb182, 4, none⟩ = some (.int .i64 ((rd_T82 l0_1 x4_1).f3.f1)) := (blk_cell BK182.out 4).trans rfl
                 have hcz88_5 : wc.cell? ⟨gb182, 5, none⟩ = some (.string ((rd_T82 l0_1 x4_1).f3.f2)) := (blk_cell BK182.out 5).trans rfl
                 have hfz88_0 := blk_frozen BK182.out 0
                 have hfz88_1 := blk_frozen BK182.out 1
                 have hfz88_2 := blk_frozen BK182.out 2
                 have hfz88_3 := blk_frozen BK182.out 3
                 have hfz88_4 := blk_frozen BK182.out 4
                 have hfz88_5 := blk_frozen BK182.out 5
                 go_wp2_with (first | ((with_reducible refine gate_callee (f := 56) rfl ?_); refine goesL_ (some 53) rfl rfl Tryd.func56 (by kernel_rfl) rfl #[.slice Ao34 t183.length co34, .agg #[.int .i64 ((rd_T82 l0_1 x4_1).f3.f0), .int .i64 ((rd_T82 l0_1 x4_1).f3.f1), .string ((rd_T82 l0_1 x4_1).f3.f2)]] rfl (by (try simp only [List.map_toArray, List.map_cons, List.map_nil]); first | done | rfl | (simp only [List.length_drop, List.length_take]; rfl)) ?_; (with_reducible refine (marks_Move.calls kj36 _ _ t183 ((rd_T82 l0_1 x4_1).f3.f0) ((rd_T82 l0_1 x4_1).f3.f1) ((rd_T82 l0_1 x4_1).f3.f2) t205 t208 _ ?side1 ?side2 ?side3 A82.out).mono ?_); (case side1 => repeat (first | exact (Kd.R_reads' HO_6.out).2.2 | (with_reducible refine Kd.C_alloc ?_ _) | (with_reducible refine Kd.C_drewN ?_ _) | (with_reducible refine Kd.C_drew ?_))); (case side2 => exact (Kd.R_reads' HO_6.out).2.1); (case side3 => repeat (first | exact HT.out | exact T_below HT.out HB.out | (with_reducible refine T_alloc ?_ _) | (with_reducible refine T_drewN ?_ _) | (with_reducible refine T_drew ?_) | exact T_below HT.out (by repeat (first | (with_reducible first | exact HB.out | apply q7 | apply q8 | apply q9 | refine below_set ?_ GE175.out | refine below_set ?_ GE182.out) | exact HB.out)))); rintro e w89 ⟨v206, rfl, ho0, hb⟩; refine ⟨_, rfl, ?_⟩; have n0_ := Aside0.mk (Kd.R_elder' (by (with_reducible repeat (first | apply qa | apply qc | apply qb)); exact HO_3.out) (Kd.R_base ho0) hb); have n1_ := Aside0.mk (Kd.R_elder' (by (with_reducible repeat (first | apply qa | apply qc | apply qb)); exact HO_6.out) (Kd.R_base ho0) hb); have n2_ := Aside0.mk (Kd.R_elder' (by (with_reducible repeat (first | apply qa | apply qc | apply qb)); exact HO_10.out) (Kd.R_base ho0) hb); have n3_ := Aside0.mk (Kd.R_lower (Kd.R_new' (Kd.R_new' (Kd.R_new' ho0 (Kd.R_lt (by (with_reducible repeat (first | apply qa | apply qc | apply qb)); exact HO_3.out))) (Kd.R_lt (by (with_reducible repeat (first | apply qa | apply qc | apply qb)); exact HO_6.out))) (Kd.R_lt (by (with_reducible repeat (first | apply qa | apply qc | apply qb)); exact HO_10.out))) (below_size (by repeat (first | (with_reducible first | exact HB.out | apply q7 | apply q8 | apply q9 | refine below_set ?_ GE175.out | refine below_set ?_ GE182.out) | exact HB.out)))); have n4_ := Aside0.mk (blk_below (g := gb175) (o := .cells #[.slice A0_0 l0_0.length c0_0, .slice (some ad181) l0_1.length c0_1] 76 (0, 0)) (by (with_reducible repeat (first | refine q4 ?_ _ | refine q5 ?_ | refine q6 ?_ _)); exact BK175.out) hb); have n5_ := Aside0.mk (blk_below (g := gb182) (o := .cells #[.int .i64 ((rd_T82 l0_1 x4_1).f0), .int .i64 ((rd_T82 l0_1 x4_1).f1), .int .i64 ((rd_T82 l0_1 x4_1).f2), .int .i64 ((rd_T82 l0_1 x4_1).f3.f0), .int .i64 ((rd_T82 l0_1 x4_1).f3.f1), .string ((rd_T82 l0_1 x4_1).f3.f2)] 82 (0, 0)) (by (with_reducible repeat (first | refine q4 ?_ _ | refine q5 ?_ | refine q6 ?_ _)); exact BK182.out) hb); have n6_ := Aside0.mk (below_step (by repeat (first | (with_reducible first | exact HB.out | apply q7 | apply q8 | apply q9 | refine below_set ?_ GE175.out | refine below_set ?_ GE182.out) | exact HB.out)) hb); clear HO_3; clear HO_6; clear HO_10; clear BK175; clear BK182; clear HB; have HO_3 := n0_; have HO_6 := n1_; have HO_10 := n2_; have HO207 := n3_; have BK175 := n4_; have BK182 := n5_; have HB := n6_; clear n0_ n1_ n2_ n3_ n4_ n5_ n6_; (try clear hb); (try clear hb2); (try clear hk); (try clear hi); (try clear ho0); have hcz90_0 : w89.cell? ⟨gb182, 0, none⟩ = some (.int .i64 ((rd_T82 l0_1 x4_1).f0)) := (blk_cell BK182.out 0).trans rfl; have hcz90_1 : w89.cell? ⟨gb182, 1, none⟩ = some (.int .i64 ((rd_T82 l0_1 x4_1).f1)) := (blk_cell BK182.out 1).trans rfl; have hcz90_2 : w89.cell? ⟨gb182, 2, none⟩ = some (.int .i64 ((rd_T82 l0_1 x4_1).f2)) := (blk_cell BK182.out 2).trans rfl; have hcz90_3 : w89.cell? ⟨gb182, 3, none⟩ = some (.int .i64 ((rd_T82 l0_1 x4_1).f3.f0)) := (blk_cell BK182.out 3).trans rfl; have hcz90_4 : w89.cell? ⟨gb182, 4, none⟩ = some (.int .i64 ((rd_T82 l0_1 x4_1).f3.f1)) := (blk_cell BK182.out 4).trans rfl; have hcz90_5 : w89.cell? ⟨gb182, 5, none⟩ = some (.string ((rd_T82 l0_1 x4_1).f3.f2)) := (blk_cell BK182.out 5).trans rfl; have hfz90_0 := blk_frozen BK182.out 0; have hfz90_1 := blk_frozen BK182.out 1; have hfz90_2 := blk_frozen BK182.out 2; have hfz90_3 := blk_frozen BK182.out 3; have hfz90_4 := blk_frozen BK182.out 4; have hfz90_5 := blk_frozen BK182.out 5) | (go_at_call 57; (with_reducible refine (quillref4_Moves.calls kj36 ((rd_T82 l0_1 x4_1).f3.f0) ((rd_T82 l0_1 x4_1).f3.f1) ((rd_T82 l0_1 x4_1).f3.f2) true _ ?side1 A84.out).mono ?_); (case side1 => repeat (first | exact HT.out | exact T_below HT.out HB.out | (with_reducible refine T_alloc ?_ _) | (with_reducible refine T_drewN ?_ _) | (with_reducible refine T_drew ?_) | exact T_below HT.out (by repeat (first | (with_reducible first | exact HB.out | apply q7 | apply q8 | apply q9 | refine below_set ?_ GE175.out | refine below_set ?_ GE182.out) | exact HB.out)))); rintro e w91 ⟨rfl, hb⟩; have n0_ := Aside0.mk (Kd.R_below (by (with_reducible repeat (first | apply qa | apply qc | apply qb)); exact HO_3.out) hb); have n1_ := Aside0.mk (Kd.R_below (by (with_reducible repeat (first | apply qa | apply qc | apply qb)); exact HO_6.out) hb); have n2_ := Aside0.mk (Kd.R_below (by (with_reducible repeat (first | apply qa | apply qc | apply qb)); exact HO_10.out) hb); have n3_ := Aside0.mk (Kd.R_below (by (with_reducible repeat (first | apply qa | apply qc | apply qb)); exact HO207.out) hb); have n4_ := Aside0.mk (blk_below (g := gb175) (o := .cells #[.slice A0_0 l0_0.length c0_0, .slice (some ad181) l0_1.length c0_1] 76 (0, 0)) (by (with_reducible repeat (first | refine q4 ?_ _ | refine q5 ?_ | refine q6 ?_ _)); exact BK175.out) hb); have n5_ := Aside0.mk (blk_below (g := gb182) (o := .cells #[.int .i64 ((rd_T82 l0_1 x4_1).f0), .int .i64 ((rd_T82 l0_1 x4_1).f1), .int .i64 ((rd_T82 l0_1 x4_1).f2), .int .i64 ((rd_T82 l0_1 x4_1).f3.f0), .int .i64 ((rd_T82 l0_1 x4_1).f3.f1), .string ((rd_T82 l0_1 x4_1).f3.f2)] 82 (0, 0)) (by (with_reducible repeat (first | refine q4 ?_ _ | refine q5 ?_ | refine q6 ?_ _)); exact BK182.out) hb); have n6_ := Aside0.mk (below_step (by repeat (first | (with_reducible first | exact HB.out | apply q7 | apply q8 | apply q9 | refine below_set ?_ GE175.out | refine below_set ?_ GE182.out) | exact HB.out)) hb); clear HO_3; clear HO_6; clear HO_10; clear HO207; clear BK175; clear BK182; clear HB; have HO_3 := n0_; have HO_6 := n1_; have HO_10 := n2_; have HO207 := n3_; have BK175 := n4_; have BK182 := n5_; have HB := n6_; clear n0_ n1_ n2_ n3_ n4_ n5_ n6_; (try clear hb); (try clear hb2); (try clear hk); (try clear hi); have hcz92_0 : w91.cell? ⟨gb182, 0, none⟩ = some (.int .i64 ((rd_T82 l0_1 x4_1).f0)) := (blk_cell BK182.out 0).trans rfl; have hcz92_1 : w91.cell? ⟨gb182, 1, none⟩ = some (.int .i64 ((rd_T82 l0_1 x4_1).f1)) := (blk_cell BK182.out 1).trans rfl; have hcz92_2 : w91.cell? ⟨gb182, 2, none⟩ = some (.int .i64 ((rd_T82 l0_1 x4_1).f2)) := (blk_cell BK182.out 2).trans rfl; have hcz92_3 : w91.cell? ⟨gb182, 3, none⟩ = some (.int .i64 ((rd_T82 l0_1 x4_1).f3.f0)) := (blk_cell BK182.out 3).trans rfl; have hcz92_4 : w91.cell? ⟨gb182, 4, none⟩ = some (.int .i64 ((rd_T82 l0_1 x4_1).f3.f1)) := (blk_cell BK182.out 4).trans rfl; have hcz92_5 : w91.cell? ⟨gb182, 5, none⟩ = some (.string ((rd_T82 l0_1 x4_1).f3.f2)) := (blk_cell BK182.out 5).trans rfl; have hfz92_0 := blk_frozen BK182.out 0; have hfz92_1 := blk_frozen BK182.out 1; have hfz92_2 := blk_frozen BK182.out 2; have hfz92_3 := blk_frozen BK182.out 3; have hfz92_4 := blk_frozen BK182.out 4; have hfz92_5 := blk_frozen BK182.out 5) | ((with_reducible refine gate_callee (f := 58) rfl ?_); refine goesL_ (some 65) rfl rfl Tryd.func58 (by kernel_rfl) rfl #[.slice Ao31 x3_1.length co31, .agg #[.int .i64 ((rd_T82 l0_1 x4_1).f3.f0), .int .i64 ((rd_T82 l0_1 x4_1).f3.f1), .string ((rd_T82 l0_1 x4_1).f3.f2)]] rfl (by (try simp only [List.map_toArray, List.map_cons, List.map_nil]); first | done | rfl | (simp only [List.length_drop, List.length_take]; rfl)) ?_; (with_reducible refine (quillref6_Move.calls kj36 _ _ x3_1 ((rd_T82 l0_1 x4_1).f3.f0) ((rd_T82 l0_1 x4_1).f3.f1) ((rd_T82 l0_1 x4_1).f3.f2) t210 _ ?side1 ?side2 A86.out).mono ?_); (case side1 => repeat (first | exact (Kd.R_reads' HO_3.out).2.2 | (with_reducible refine Kd.C_alloc ?_ _) | (with_reducible refine Kd.C_drewN ?_ _) | (with_reducible refine Kd.C_drew ?_))); (case side2 => exact (Kd.R_reads' HO_3.out).2.1); rintro e w93 ⟨v211, rfl, ho0, hb⟩; refine ⟨_, rfl, ?_⟩; have n0_ := Aside0.mk (Kd.R_elder' (by (with_reducible repeat (first | apply qa | apply qc | apply qb)); exact HO_3.out) (Kd.R_base ho0) hb); have n1_ := Aside0.mk (Kd.R_elder' (by (with_reducible repeat (first | apply qa | apply qc | apply qb)); exact HO_6.out) (Kd.R_base ho0) hb); have n2_ := Aside0.mk (Kd.R_elder' (by (with_reducible repeat (first | apply qa | apply qc | apply qb)); exact HO_10.out) (Kd.R_base ho0) hb); have n3_ := Aside0.mk (Kd.R_elder' (by (with_reducible repeat (first | apply qa | apply qc | apply qb)); exact HO207.out) (Kd.R_base ho0) hb); have n4_ := Aside0.mk (Kd.R_lower (Kd.R_new' (Kd.R_new' (Kd.R_new' (Kd.R_new' ho0 (Kd.R_lt (by (with_reducible repeat (first | apply qa | apply qc | apply qb)); exact HO_3.out))) (Kd.R_lt (by (with_reducible repeat (first | apply qa | apply qc | apply qb)); exact HO_6.out))) (Kd.R_lt (by (with_reducible repeat (first | apply qa | apply qc | apply qb)); exact HO_10.out))) (Kd.R_lt (by (with_reducible repeat (first | apply qa | apply qc | apply qb)); exact HO207.out))) (below_size (by repeat (first | (with_reducible first | exact HB.out | apply q7 | apply q8 | apply q9 | refine below_set ?_ GE175.out | refine below_set ?_ GE182.out) | exact HB.out)))); have n5_ := Aside0.mk (blk_below (g := gb175) (o := .cells #[.slice A0_0 l0_0.length c0_0, .slice (some ad181) l0_1.length c0_1] 76 (0, 0)) (by (with_reducible repeat (first | refine q4 ?_ _ | refine q5 ?_ | refine q6 ?_ _)); exact BK175.out) hb); have n6_ := Aside0.mk (blk_below (g := gb182) (o := .cells #[.int .i64 ((rd_T82 l0_1 x4_1).f0), .int .i64 ((rd_T82 l0_1 x4_1).f1), .int .i64 ((rd_T82 l0_1 x4_1).f2), .int .i64 ((rd_T82 l0_1 x4_1).f3.f0), .int .i64 ((rd_T82 l0_1 x4_1).f3.f1), .string ((rd_T82 l0_1 x4_1).f3.f2)] 82 (0, 0)) (by (with_reducible repeat (first | refine q4 ?_ _ | refine q5 ?_ | refine q6 ?_ _)); exact BK182.out) hb); have n7_ := Aside0.mk (below_step (by repeat (first | (with_reducible first | exact HB.out | apply q7 | apply q8 | apply q9 | refine below_set ?_ GE175.out | refine below_set ?_ GE182.out) | exact HB.out)) hb); clear HO_3; clear HO_6; clear HO_10; clear HO207; clear BK175; clear BK182; clear HB; have HO_3 := n0_; have HO_6 := n1_; have HO_10 := n2_; have HO207 := n3_; have HO212 := n4_; have BK175 := n5_; have BK182 := n6_; have HB := n7_; clear n0_ n1_ n2_ n3_ n4_ n5_ n6_ n7_; (try clear hb); (try clear hb2); (try clear hk); (try clear hi); (try clear ho0)))
                 go_meet
                 case rel => exact ⟨_, (0), (t205), (t210), (t208), (by first | rfl | (simp; done) | (simp [*]; done)), (by first | rfl | (simp; done) | (simp [*]; done)), H', ⟨by have := HK1.out; have := HJ12.out; have := HJ36.out; first | omega | exact Nat.le_refl _⟩, ⟨by (with_reducible repeat (first | apply qa | apply qc | apply qb)); exact Kd.R_mono HO_3.out (fun _ hk => ⟨hk.1.1.1, ⟨hk.1.2, hk.2⟩⟩)⟩, ⟨by (with_reducible repeat (first | apply qa | apply qc | apply qb)); exact Kd.R_mono HO_6.out (fun _ hk => ⟨hk.1.1.1, ⟨hk.1.2, hk.2⟩⟩)⟩, ⟨by (with_reducible repeat (first | apply qa | apply qc | apply qb)); exact Kd.R_mono HO207.out (fun _ hk => ⟨hk.1.1.1.2, ⟨hk.1.1.2, hk.2⟩⟩)⟩, ⟨by (with_reducible repeat (first | apply qa | apply qc | apply qb)); exact Kd.R_mono HO212.out (fun _ hk => ⟨hk.1.1.1.2, ⟨hk.1.1.2, hk.2⟩⟩)⟩, ⟨by (with_reducible repeat (first | refine q4 ?_ _ | refine q5 ?_ | refine q6 ?_ _)); exact BK175.out⟩, ⟨by (with_reducible repeat (first | refine q4 ?_ _ | refine q5 ?_ | refine q6 ?_ _)); exact BK182.out⟩, ⟨by repeat (first | (with_reducible first | exact HB.out | apply q7 | apply q8 | apply q9 | refine below_set ?_ GE175.out | refine below_set ?_ GE182.out) | exact HB.out)⟩⟩
                ·
                 replace c85 := Bool.eq_false_iff.mpr c85
                 subst c85
                 have H1 : (quilllaw6_MarksExact.j4 kj36 x3_1 x4_1 t183 1 t205 ([] : List (S150)) t208 l0_0 l0_1) = some r := by rw [if_neg (show ¬ (false = true) by decide)] at H; exact H
                 clear H
                 have H := H1
                 clear H1
                 have H' := Aside0.mk H
                 clear H
                 have hnb94 := NB182_175.out
                 have hnc94 := NB175_182.out
                 have hcz95_0 : wc.cell? ⟨gb182, 0, none⟩ = some (.int .i64 ((rd_T82 l0_1 x4_1).f0)) := (blk_cell BK182.out 0).trans rfl
                 have hcz95_1 : wc.cell? ⟨gb182, 1, none⟩ = some (.int .i64 ((rd_T82 l0_1 x4_1).f1)) := (blk_cell BK182.out 1).trans rfl
                 have hcz95_2 : wc.cell? ⟨gb182, 2, none⟩ = some (.int .i64 ((rd_T82 l0_1 x4_1).f2)) := (blk_cell BK182.out 2).trans rfl
                 have hcz95_3 : wc.cell? ⟨gb182, 3, none⟩ = some (.int .i64 ((rd_T82 l0_1 x4_1).f3.f0)) := (blk_cell BK182.out 3).trans rfl
                 have hcz95_4 : wc.cell? ⟨gb182, 4, none⟩ = some (.int .i64 ((rd_T82 l0_1 x4_1).f3.f1)) := (blk_cell BK182.out 4).trans rfl
                 have hcz95_5 : wc.cell? ⟨gb182, 5, none⟩ = some (.string ((rd_T82 l0_1 x4_1).f3.f2)) := (blk_cell BK182.out 5).trans rfl
                 have hfz95_0 := blk_frozen BK182.out 0
                 have hfz95_1 := blk_frozen BK182.out 1
                 have hfz95_2 := blk_frozen BK182.out 2
                 have hfz95_3 := blk_frozen BK182.out 3
                 have hfz95_4 := blk_frozen BK182.out 4
                 have hfz95_5 := blk_frozen BK182.out 5
                 go_wp2_with (first | ((with_reducible refine gate_callee (f := 56) rfl ?_); refine goesL_ (some 53) rfl rfl Tryd.func56 (by kernel_rfl) rfl #[.slice Ao34 t183.length co34, .agg #[.int .i64 ((rd_T82 l0_1 x4_1).f3.f0), .int .i64 ((rd_T82 l0_1 x4_1).f3.f1), .string ((rd_T82 l0_1 x4_1).f3.f2)]] rfl (by (try simp only [List.map_toArray, List.map_cons, List.map_nil]); first | done | rfl | (simp only [List.length_drop, List.length_take]; rfl)) ?_; (with_reducible refine (marks_Move.calls kj36 _ _ t183 ((rd_T82 l0_1 x4_1).f3.f0) ((rd_T82 l0_1 x4_1).f3.f1) ((rd_T82 l0_1 x4_1).f3.f2) t205 t208 _ ?side1 ?side2 ?side3 A82.out).mono ?_); (case side1 => repeat (first | exact (Kd.R_reads' HO_6.out).2.2 | (with_reducible refine Kd.C_alloc ?_ _) | (with_reducible refine Kd.C_drewN ?_ _) | (with_reducible refine Kd.C_drew ?_))); (case side2 => exact (Kd.R_reads' HO_6.out).2.1); (case side3 => repeat (first | exact HT.out | exact T_below HT.out HB.out | (with_reducible refine T_alloc ?_ _) | (with_reducible refine T_drewN ?_ _) | (with_reducible refine T_drew ?_) | exact T_below HT.out (by repeat (first | (with_reducible first | exact HB.out | apply q7 | apply q8 | apply q9 | refine below_set ?_ GE175.out | refine below_set ?_ GE182.out) | exact HB.out)))); rintro e w96 ⟨v206, rfl, ho0, hb⟩; refine ⟨_, rfl, ?_⟩; have n0_ := Aside0.mk (Kd.R_elder' (by (with_reducible repeat (first | apply qa | apply qc | apply qb)); exact HO_3.out) (Kd.R_base ho0) hb); have n1_ := Aside0.mk (Kd.R_elder' (by (with_reducible repeat (first | apply qa | apply qc | apply qb)); exact HO_6.out) (Kd.R_base ho0) hb); have n2_ := Aside0.mk (Kd.R_elder' (by (with_reducible repeat (first | apply qa | apply qc | apply qb)); exact HO_10.out) (Kd.R_base ho0) hb); have n3_ := Aside0.mk (Kd.R_lower (Kd.R_new' (Kd.R_new' (Kd.R_new' ho0 (Kd.R_lt (by (with_reducible repeat (first | apply qa | apply qc | apply qb)); exact HO_3.out))) (Kd.R_lt (by (with_reducible repeat (first | apply qa | apply qc | apply qb)); exact HO_6.out))) (Kd.R_lt (by (with_reducible repeat (first | apply qa | apply qc | apply qb)); exact HO_10.out))) (below_size (by repeat (first | (with_reducible first | exact HB.out | apply q7 | apply q8 | apply q9 | refine below_set ?_ GE175.out | refine below_set ?_ GE182.out) | exact HB.out)))); have n4_ := Aside0.mk (blk_below (g := gb175) (o := .cells #[.slice A0_0 l0_0.length c0_0, .slice (some ad181) l0_1.length c0_1] 76 (0, 0)) (by (with_reducible repeat (first | refine q4 ?_ _ | refine q5 ?_ | refine q6 ?_ _)); exact BK175.out) hb); have n5_ := Aside0.mk (blk_below (g := gb182) (o := .cells #[.int .i64 ((rd_T82 l0_1 x4_1).f0), .int .i64 ((rd_T82 l0_1 x4_1).f1), .int .i64 ((rd_T82 l0_1 x4_1).f2), .int .i64 ((rd_T82 l0_1 x4_1).f3.f0), .int .i64 ((rd_T82 l0_1 x4_1).f3.f1), .string ((rd_T82 l0_1 x4_1).f3.f2)] 82 (0, 0)) (by (with_reducible repeat (first | refine q4 ?_ _ | refine q5 ?_ | refine q6 ?_ _)); exact BK182.out) hb); have n6_ := Aside0.mk (below_step (by repeat (first | (with_reducible first | exact HB.out | apply q7 | apply q8 | apply q9 | refine below_set ?_ GE175.out | refine below_set ?_ GE182.out) | exact HB.out)) hb); clear HO_3; clear HO_6; clear HO_10; clear BK175; clear BK182; clear HB; have HO_3 := n0_; have HO_6 := n1_; have HO_10 := n2_; have HO207 := n3_; have BK175 := n4_; have BK182 := n5_; have HB := n6_; clear n0_ n1_ n2_ n3_ n4_ n5_ n6_; (try clear hb); (try clear hb2); (try clear hk); (try clear hi); (try clear ho0); have hcz97_0 : w96.cell? ⟨gb182, 0, none⟩ = some (.int .i64 ((rd_T82 l0_1 x4_1).f0)) := (blk_cell BK182.out 0).trans rfl; have hcz97_1 : w96.cell? ⟨gb182, 1, none⟩ = some (.int .i64 ((rd_T82 l0_1 x4_1).f1)) := (blk_cell BK182.out 1).trans rfl; have hcz97_2 : w96.cell? ⟨gb182, 2, none⟩ = some (.int .i64 ((rd_T82 l0_1 x4_1).f2)) := (blk_cell BK182.out 2).trans rfl; have hcz97_3 : w96.cell? ⟨gb182, 3, none⟩ = some (.int .i64 ((rd_T82 l0_1 x4_1).f3.f0)) := (blk_cell BK182.out 3).trans rfl; have hcz97_4 : w96.cell? ⟨gb182, 4, none⟩ = some (.int .i64 ((rd_T82 l0_1 x4_1).f3.f1)) := (blk_cell BK182.out 4).trans rfl; have hcz97_5 : w96.cell? ⟨gb182, 5, none⟩ = some (.string ((rd_T82 l0_1 x4_1).f3.f2)) := (blk_cell BK182.out 5).trans rfl; have hfz97_0 := blk_frozen BK182.out 0; have hfz97_1 := blk_frozen BK182.out 1; have hfz97_2 := blk_frozen BK182.out 2; have hfz97_3 := blk_frozen BK182.out 3; have hfz97_4 := blk_frozen BK182.out 4; have hfz97_5 := blk_frozen BK182.out 5) | (go_at_call 57; (with_reducible refine (quillref4_Moves.calls kj36 ((rd_T82 l0_1 x4_1).f3.f0) ((rd_T82 l0_1 x4_1).f3.f1) ((rd_T82 l0_1 x4_1).f3.f2) false _ ?side1 A84.out).mono ?_); (case side1 => repeat (first | exact HT.out | exact T_below HT.out HB.out | (with_reducible refine T_alloc ?_ _) | (with_reducible refine T_drewN ?_ _) | (with_reducible refine T_drew ?_) | exact T_below HT.out (by repeat (first | (with_reducible first | exact HB.out | apply q7 | apply q8 | apply q9 | refine below_set ?_ GE175.out | refine below_set ?_ GE182.out) | exact HB.out)))); rintro e w98 ⟨rfl, hb⟩; have n0_ := Aside0.mk (Kd.R_below (by (with_reducible repeat (first | apply qa | apply qc | apply qb)); exact HO_3.out) hb); have n1_ := Aside0.mk (Kd.R_below (by (with_reducible repeat (first | apply qa | apply qc | apply qb)); exact HO_6.out) hb); have n2_ := Aside0.mk (Kd.R_below (by (with_reducible repeat (first | apply qa | apply qc | apply qb)); exact HO_10.out) hb); have n3_ := Aside0.mk (Kd.R_below (by (with_reducible repeat (first | apply qa | apply qc | apply qb)); exact HO207.out) hb); have n4_ := Aside0.mk (blk_below (g := gb175) (o := .cells #[.slice A0_0 l0_0.length c0_0, .slice (some ad181) l0_1.length c0_1] 76 (0, 0)) (by (with_reducible repeat (first | refine q4 ?_ _ | refine q5 ?_ | refine q6 ?_ _)); exact BK175.out) hb); have n5_ := Aside0.mk (blk_below (g := gb182) (o := .cells #[.int .i64 ((rd_T82 l0_1 x4_1).f0), .int .i64 ((rd_T82 l0_1 x4_1).f1), .int .i64 ((rd_T82 l0_1 x4_1).f2), .int .i64 ((rd_T82 l0_1 x4_1).f3.f0), .int .i64 ((rd_T82 l0_1 x4_1).f3.f1), .string ((rd_T82 l0_1 x4_1).f3.f2)] 82 (0, 0)) (by (with_reducible repeat (first | refine q4 ?_ _ | refine q5 ?_ | refine q6 ?_ _)); exact BK182.out) hb); have n6_ := Aside0.mk (below_step (by repeat (first | (with_reducible first | exact HB.out | apply q7 | apply q8 | apply q9 | refine below_set ?_ GE175.out | refine below_set ?_ GE182.out) | exact HB.out)) hb); clear HO_3; clear HO_6; clear HO_10; clear HO207; clear BK175; clear BK182; clear HB; have HO_3 := n0_; have HO_6 := n1_; have HO_10 := n2_; have HO207 := n3_; have BK175 := n4_; have BK182 := n5_; have HB := n6_; clear n0_ n1_ n2_ n3_ n4_ n5_ n6_; (try clear hb); (try clear hb2); (try clear hk); (try clear hi)))
                 go_meet
                 case rel => exact ⟨_, (1), (t205), (([] : List (S150))), (t208), (by first | rfl | (simp; done) | (simp [*]; done)), (by first | rfl | (simp; done) | (simp [*]; done)), H', ⟨by have := HK1.out; have := HJ12.out; have := HJ36.out; first | omega | exact Nat.le_refl _⟩, ⟨by (with_reducible repeat (first | apply qa | apply qc | apply qb)); exact Kd.R_mono HO_3.out (fun _ hk => ⟨hk.1.1, ⟨hk.2, hk.1.2⟩⟩)⟩, ⟨by (with_reducible repeat (first | apply qa | apply qc | apply qb)); exact Kd.R_mono HO_6.out (fun _ hk => ⟨hk.1.1, ⟨hk.2, hk.1.2⟩⟩)⟩, ⟨by (with_reducible repeat (first | apply qa | apply qc | apply qb)); exact Kd.R_mono HO207.out (fun _ hk => ⟨hk.1.1.2, ⟨hk.1.2, hk.2⟩⟩)⟩, ⟨by (with_reducible repeat (first | apply qa | apply qc | apply qb)); exact Kd.R_mono HO_10.out (fun _ hk => ⟨hk.1.1, ⟨hk.1.2, hk.2⟩⟩)⟩, ⟨by (with_reducible repeat (first | refine q4 ?_ _ | refine q5 ?_ | refine q6 ?_ _)); exact BK175.out⟩, ⟨by (with_reducible repeat (first | refine q4 ?_ _ | refine q5 ?_ | refine q6 ?_ _)); exact BK182.out⟩, ⟨by repeat (first | (with_reducible first | exact HB.out | apply q7 | apply q8 | apply q9 | refine below_set ?_ GE175.out | refine below_set ?_ GE182.out) | exact HB.out)⟩⟩
               ·
                replace c83 := Bool.eq_false_iff.mpr c83
                subst c83
                have H1 : (quilllaw6_MarksExact.j4 kj36 x3_1 x4_1 t183 1 t205 ([] : List (S150)) t208 l0_0 l0_1) = some r := by rw [if_neg (show ¬ (false = true) by decide)] at H; exact H
                clear H
                have H := H1
                clear H1
                have H' := Aside0.mk H
                clear H
                have hnb99 := NB182_175.out
                have hnc99 := NB175_182.out
                have hcz100_0 : wc.cell? ⟨gb182, 0, none⟩ = some (.int .i64 ((rd_T82 l0_1 x4_1).f0)) := (blk_cell BK182.out 0).trans rfl
                have hcz100_1 : wc.cell? ⟨gb182, 1, none⟩ = some (.int .i64 ((rd_T82 l0_1 x4_1).f1)) := (blk_cell BK182.out 1).trans rfl
                have hcz100_2 : wc.cell? ⟨gb182, 2, none⟩ = some (.int .i64 ((rd_T82 l0_1 x4_1).f2)) := (blk_cell BK182.out 2).trans rfl
                have hcz100_3 : wc.cell? ⟨gb182, 3, none⟩ = some (.int .i64 ((rd_T82 l0_1 x4_1).f3.f0)) := (blk_cell BK182.out 3).trans rfl
                have hcz100_4 : wc.cell? ⟨gb182, 4, none⟩ = some (.int .i64 ((rd_T82 l0_1 x4_1).f3.f1)) := (blk_cell BK182.out 4).trans rfl
                have hcz100_5 : wc.cell? ⟨gb182, 5, none⟩ = some (.string ((rd_T82 l0_1 x4_1).f3.f2)) := (blk_cell BK182.out 5).trans rfl
                have hfz100_0 := blk_frozen BK182.out 0
                have hfz100_1 := blk_frozen BK182.out 1
                have hfz100_2 := blk_frozen BK182.out 2
                have hfz100_3 := blk_frozen BK182.out 3
                have hfz100_4 := blk_frozen BK182.out 4
                have hfz100_5 := blk_frozen BK182.out 5
                go_wp2_with (first | ((with_reducible refine gate_callee (f := 56) rfl ?_); refine goesL_ (some 53) rfl rfl Tryd.func56 (by kernel_rfl) rfl #[.slice Ao34 t183.length co34, .agg #[.int .i64 ((rd_T82 l0_1 x4_1).f3.f0), .int .i64 ((rd_T82 l0_1 x4_1).f3.f1), .string ((rd_T82 l0_1 x4_1).f3.f2)]] rfl (by (try simp only [List.map_toArray, List.map_cons, List.map_nil]); first | done | rfl | (simp only [List.length_drop, List.length_take]; rfl)) ?_; (with_reducible refine (marks_Move.calls kj36 _ _ t183 ((rd_T82 l0_1 x4_1).f3.f0) ((rd_T82 l0_1 x4_1).f3.f1) ((rd_T82 l0_1 x4_1).f3.f2) t205 t208 _ ?side1 ?side2 ?side3 A82.out).mono ?_); (case side1 => repeat (first | exact (Kd.R_reads' HO_6.out).2.2 | (with_reducible refine Kd.C_alloc ?_ _) | (with_reducible refine Kd.C_drewN ?_ _) | (with_reducible refine Kd.C_drew ?_))); (case side2 => exact (Kd.R_reads' HO_6.out).2.1); (case side3 => repeat (first | exact HT.out | exact T_below HT.out HB.out | (with_reducible refine T_alloc ?_ _) | (with_reducible refine T_drewN ?_ _) | (with_reducible refine T_drew ?_) | exact T_below HT.out (by repeat (first | (with_reducible first | exact HB.out | apply q7 | apply q8 | apply q9 | refine below_set ?_ GE175.out | refine below_set ?_ GE182.out) | exact HB.out)))); rintro e w101 ⟨v206, rfl, ho0, hb⟩; refine ⟨_, rfl, ?_⟩; have n0_ := Aside0.mk (Kd.R_elder' (by (with_reducible repeat (first | apply qa | apply qc | apply qb)); exact HO_3.out) (Kd.R_base ho0) hb); have n1_ := Aside0.mk (Kd.R_elder' (by (with_reducible repeat (first | apply qa | apply qc | apply qb)); exact HO_6.out) (Kd.R_base ho0) hb); have n2_ := Aside0.mk (Kd.R_elder' (by (with_reducible repeat (first | apply qa | apply qc | apply qb)); exact HO_10.out) (Kd.R_base ho0) hb); have n3_ := Aside0.mk (Kd.R_lower (Kd.R_new' (Kd.R_new' (Kd.R_new' ho0 (Kd.R_lt (by (with_reducible repeat (first | apply qa | apply qc | apply qb)); exact HO_3.out))) (Kd.R_lt (by (with_reducible repeat (first | apply qa | apply qc | apply qb)); exact HO_6.out))) (Kd.R_lt (by (with_reducible repeat (first | apply qa | apply qc | apply qb)); exact HO_10.out))) (below_size (by repeat (first | (with_reducible first | exact HB.out | apply q7 | apply q8 | apply q9 | refine below_set ?_ GE175.out | refine below_set ?_ GE182.out) | exact HB.out)))); have n4_ := Aside0.mk (blk_below (g := gb175) (o := .cells #[.slice A0_0 l0_0.length c0_0, .slice (some ad181) l0_1.length c0_1] 76 (0, 0)) (by (with_reducible repeat (first | refine q4 ?_ _ | refine q5 ?_ | refine q6 ?_ _)); exact BK175.out) hb); have n5_ := Aside0.mk (blk_below (g := gb182) (o := .cells #[.int .i64 ((rd_T82 l0_1 x4_1).f0), .int .i64 ((rd_T82 l0_1 x4_1).f1), .int .i64 ((rd_T82 l0_1 x4_1).f2), .int .i64 ((rd_T82 l0_1 x4_1).f3.f0), .int .i64 ((rd_T82 l0_1 x4_1).f3.f1), .string ((rd_T82 l0_1 x4_1).f3.f2)] 82 (0, 0)) (by (with_reducible repeat (first | refine q4 ?_ _ | refine q5 ?_ | refine q6 ?_ _)); exact BK182.out) hb); have n6_ := Aside0.mk (below_step (by repeat (first | (with_reducible first | exact HB.out | apply q7 | apply q8 | apply q9 | refine below_set ?_ GE175.out | refine below_set ?_ GE182.out) | exact HB.out)) hb); clear HO_3; clear HO_6; clear HO_10; clear BK175; clear BK182; clear HB; have HO_3 := n0_; have HO_6 := n1_; have HO_10 := n2_; have HO207 := n3_; have BK175 := n4_; have BK182 := n5_; have HB := n6_; clear n0_ n1_ n2_ n3_ n4_ n5_ n6_; (try clear hb); (try clear hb2); (try clear hk); (try clear hi); (try clear ho0)))
                go_meet
                case rel => exact ⟨_, (1), (t205), (([] : List (S150))), (t208), (by first | rfl | (simp; done) | (simp [*]; done)), (by first | rfl | (simp; done) | (simp [*]; done)), H', ⟨by have := HK1.out; have := HJ12.out; have := HJ36.out; first | omega | exact Nat.le_refl _⟩, ⟨by (with_reducible repeat (first | apply qa | apply qc | apply qb)); exact Kd.R_mono HO_3.out (fun _ hk => ⟨hk.1.1, ⟨hk.2, hk.1.2⟩⟩)⟩, ⟨by (with_reducible repeat (first | apply qa | apply qc | apply qb)); exact Kd.R_mono HO_6.out (fun _ hk => ⟨hk.1.1, ⟨hk.2, hk.1.2⟩⟩)⟩, ⟨by (with_reducible repeat (first | apply qa | apply qc | apply qb)); exact Kd.R_mono HO207.out (fun _ hk => ⟨hk.1.1.2, ⟨hk.1.2, hk.2⟩⟩)⟩, ⟨by (with_reducible repeat (first | apply qa | apply qc | apply qb)); exact Kd.R_mono HO_10.out (fun _ hk => ⟨hk.1.1, ⟨hk.1.2, hk.2⟩⟩)⟩, ⟨by (with_reducible repeat (first | refine q4 ?_ _ | refine q5 ?_ | refine q6 ?_ _)); exact BK175.out⟩, ⟨by (with_reducible repeat (first | refine q4 ?_ _ | refine q5 ?_ | refine q6 ?_ _)); exact BK182.out⟩, ⟨by repeat (first | (with_reducible first | exact HB.out | apply q7 | apply q8 | apply q9 | refine below_set ?_ GE175.out | refine below_set ?_ GE182.out) | exact HB.out)⟩⟩
          case rest =>
           clear HC26
           try clear c1
           try clear p1
           try clear q1
           try clear hx1
           try clear c2
           try clear p2
           try clear c3
           try clear c4
           try clear c5
           try clear c6
           try clear p6
           try clear c7
           try clear c8
           try clear c9
           try clear c14
           try clear c14b0
           try clear c17
           try clear c18
           try clear c18b0
           try clear p18
           try clear q18
           try clear hx18
           try clear c19
           try clear c19b0
           try clear c24
           try clear c24b0
           try clear c24b1
           try clear c24b2
           try clear c29
           try clear c38
           try clear c38b0
           try clear c38b1
           try clear c39
           try clear c41
           try clear c43
           try clear c45
           try clear c46
           try clear c47
           try clear c48
           try clear c49
           try clear c50
           try clear c52
           try clear c53
           try clear c54
           try clear c56
           try clear c58
           try clear c60
           try clear c63
           try clear c63b0
           try clear c63b1
           try clear p64
           try clear c66
           try clear c69
           try clear c71
           try clear c71b0
           try clear c73
           try clear c75
           try clear c78
           try clear c78b0
           try clear c78b1
           try clear c79
           try clear c79b0
           try clear c79b1
           try clear c81
           try clear c83
           try clear c85
           try clear c87
           try clear c94
           try clear c99
           try clear hcz100_0
           try clear hcz100_1
           try clear hcz100_2
           try clear hcz100_3
           try clear hcz100_4
           try clear hcz100_5
           try clear hcz11_0
           try clear hcz11_1
           try clear hcz15_0
           try clear hcz15_1
           try clear hcz16_0
           try clear hcz16_1
           try clear hcz27_0
           try clear hcz27_1
           try clear hcz30_0
           try clear hcz30_1
           try clear hcz30_2
           try clear hcz30_3
           try clear hcz30_4
           try clear hcz30_5
           try clear hcz36_0
           try clear hcz36_1
           try clear hcz36_2
           try clear hcz36_3
           try clear hcz36_4
           try clear hcz36_5
           try clear hcz48_0
           try clear hcz48_1
           try clear hcz48_2
           try clear hcz48_3
           try clear hcz48_4
           try clear hcz48_5
           try clear hcz50_0
           try clear hcz50_1
           try clear hcz50_2
           try clear hcz50_3
           try clear hcz50_4
           try clear hcz50_5
           try clear hcz53_0
           try clear hcz53_1
           try clear hcz53_2
           try clear hcz53_3
           try clear hcz53_4
           try clear hcz53_5
           try clear hcz55_0
           try clear hcz55_1
           try clear hcz55_2
           try clear hcz55_3
           try clear hcz55_4
           try clear hcz55_5
           try clear hcz57_0
           try clear hcz57_1
           try clear hcz57_2
           try clear hcz57_3
           try clear hcz57_4
           try clear hcz57_5
           try clear hcz59_0
           try clear hcz59_1
           try clear hcz59_2
           try clear hcz59_3
           try clear hcz59_4
           try clear hcz59_5
           try clear hcz5_0
           try clear hcz5_1
           try clear hcz61_0
           try clear hcz61_1
           try clear hcz61_2
           try clear hcz61_3
           try clear hcz61_4
           try clear hcz61_5
           try clear hcz67_0
           try clear hcz67_1
           try clear hcz67_2
           try clear hcz67_3
           try clear hcz67_4
           try clear hcz67_5
           try clear hcz74_0
           try clear hcz74_1
           try clear hcz74_2
           try clear hcz74_3
           try clear hcz74_4
           try clear hcz74_5
           try clear hcz76_0
           try clear hcz76_1
           try clear hcz76_2
           try clear hcz76_3
           try clear hcz76_4
           try clear hcz76_5
           try clear hcz88_0
           try clear hcz88_1
           try clear hcz88_2
           try clear hcz88_3
           try clear hcz88_4
           try clear hcz88_5
           try clear hcz90_0
           try clear hcz90_1
           try clear hcz90_2
           try clear hcz90_3
           try clear hcz90_4
           try clear hcz90_5
           try clear hcz92_0
           try clear hcz92_1
           try clear hcz92_2
           try clear hcz92_3
           try clear hcz92_4
           try clear hcz92_5
           try clear hcz95_0
           try clear hcz95_1
           try clear hcz95_2
           try clear hcz95_3
           try clear hcz95_4
           try clear hcz95_5
           try clear hcz97_0
           try clear hcz97_1
           try clear hcz97_2
           try clear hcz97_3
           try clear hcz97_4
           try clear hcz97_5
           try clear hcz9_0
           try clear hcz9_1
           try clear hfz100_0
           try clear hfz100_1
           try clear hfz100_2
           try clear hfz100_3
           try clear hfz100_4
           try clear hfz100_5
           try clear hfz11_0
           try clear hfz11_1
           try clear hfz15_0
           try clear hfz15_1
           try clear hfz16_0
           try clear hfz16_1
           try clear hfz27_0
           try clear hfz27_1
           try clear hfz30_0
           try clear hfz30_1
           try clear hfz30_2
           try clear hfz30_3
           try clear hfz30_4
           try clear hfz30_5
           try clear hfz36_0
           try clear hfz36_1
           try clear hfz36_2
           try clear hfz36_3
           try clear hfz36_4
           try clear hfz36_5
           try clear hfz48_0
           try clear hfz48_1
           try clear hfz48_2
           try clear hfz48_3
           try clear hfz48_4
           try clear hfz48_5
           try clear hfz50_0
           try clear hfz50_1
           try clear hfz50_2
           try clear hfz50_3
           try clear hfz50_4
           try clear hfz50_5
           try clear hfz53_0
           try clear hfz53_1
           try clear hfz53_2
           try clear hfz53_3
           try clear hfz53_4
           try clear hfz53_5
           try clear hfz55_0
           try clear hfz55_1
           try clear hfz55_2
           try clear hfz55_3
           try clear hfz55_4
           try clear hfz55_5
           try clear hfz57_0
           try clear hfz57_1
           try clear hfz57_2
           try clear hfz57_3
           try clear hfz57_4
           try clear hfz57_5
           try clear hfz59_0
           try clear hfz59_1
           try clear hfz59_2
           try clear hfz59_3
           try clear hfz59_4
           try clear hfz59_5
           try clear hfz5_0
           try clear hfz5_1
           try clear hfz61_0
           try clear hfz61_1
           try clear hfz61_2
           try clear hfz61_3
           try clear hfz61_4
           try clear hfz61_5
           try clear hfz67_0
           try clear hfz67_1
           try clear hfz67_2
           try clear hfz67_3
           try clear hfz67_4
           try clear hfz67_5
           try clear hfz74_0
           try clear hfz74_1
           try clear hfz74_2
           try clear hfz74_3
           try clear hfz74_4
           try clear hfz74_5
           try clear hfz76_0
           try clear hfz76_1
           try clear hfz76_2
           try clear hfz76_3
           try clear hfz76_4
           try clear hfz76_5
           try clear hfz88_0
           try clear hfz88_1
           try clear hfz88_2
           try clear hfz88_3
           try clear hfz88_4
           try clear hfz88_5
           try clear hfz90_0
           try clear hfz90_1
           try clear hfz90_2
           try clear hfz90_3
           try clear hfz90_4
           try clear hfz90_5
           try clear hfz92_0
           try clear hfz92_1
           try clear hfz92_2
           try clear hfz92_3
           try clear hfz92_4
           try clear hfz92_5
           try clear hfz95_0
           try clear hfz95_1
           try clear hfz95_2
           try clear hfz95_3
           try clear hfz95_4
           try clear hfz95_5
           try clear hfz97_0
           try clear hfz97_1
           try clear hfz97_2
           try clear hfz97_3
           try clear hfz97_4
           try clear hfz97_5
           try clear hfz9_0
           try clear hfz9_1
           try clear hx181_0
           try clear hx181_1
           try clear hx181_2
           try clear hx181_3
           try clear hx181_4
           try clear hx181_5
           try clear p1
           try clear p18
           try clear p181
           try clear p2
           try clear q1
           try clear q18
           try clear q181
           obtain ⟨kq, x8_25, x9_25, x10_25, x11_25, rfl, rfl, HA, HJ25, HO_3, HO_6, HO_9, HO_10, BK175, BK182, HB⟩ := hcut
           cases kq with
           | zero => exact absurd HA.out (by simp [quilllaw6_MarksExact.j4])
           | succ kj25 =>
            have H := HA.out
            clear HA
            simp only [quilllaw6_MarksExact.j4] at H
            have HC102 := Aside0.mk H
            clear H
            go_upto_region 33 with (fail)
            go_cut [144] (fun v144 wc => ∃ (kq : Nat) (x144_101 : Bool), v144 = .bool x144_101 ∧ Aside0 (quilllaw6_MarksExact.j5 kq x3_1 x4_1 t183 x8_25 x9_25 x10_25 x144_101 l0_0 l0_1 = some r) ∧ Aside0 (kq ≤ kj25) ∧ Aside0 (Kd.R k150 150 wc w.heap.size (fun k_ => some k_ ≠ ((.slice Ao34 t183.length co34) : Value).ownBlock ∧ some k_ ≠ (u9 : Value).ownBlock ∧ some k_ ≠ (u10 : Value).ownBlock) (.slice Ao31 x3_1.length co31) x3_1) ∧ Aside0 (Kd.R k150 150 wc w.heap.size (fun k_ => some k_ ≠ ((.slice Ao31 x3_1.length co31) : Value).ownBlock ∧ some k_ ≠ (u9 : Value).ownBlock ∧ some k_ ≠ (u10 : Value).ownBlock) (.slice Ao34 t183.length co34) t183) ∧ Aside0 (Kd.R k150 150 wc w.heap.size (fun k_ => some k_ ≠ ((.slice Ao31 x3_1.length co31) : Value).ownBlock ∧ some k_ ≠ ((.slice Ao34 t183.length co34) : Value).ownBlock ∧ some k_ ≠ (u10 : Value).ownBlock) u9 x9_25) ∧ Aside0 (Kd.R k150 150 wc w.heap.size (fun k_ => some k_ ≠ ((.slice Ao31 x3_1.length co31) : Value).ownBlock ∧ some k_ ≠ ((.slice Ao34 t183.length co34) : Value).ownBlock ∧ some k_ ≠ (u9 : Value).ownBlock) u10 x10_25) ∧ Aside0 (wc.heap[gb175]? = some (.cells #[(.slice A0_0 l0_0.length c0_0), (.slice (some ad181) l0_1.length c0_1)] 76 (0, 0))) ∧ Aside0 (wc.heap[gb182]? = some (.cells #[.int .i64 ((rd_T82 l0_1 x4_1).f0), .int .i64 ((rd_T82 l0_1 x4_1).f1), .int .i64 ((rd_T82 l0_1 x4_1).f2), .int .i64 ((rd_T82 l0_1 x4_1).f3.f0), .int .i64 ((rd_T82 l0_1 x4_1).f3.f1), .string ((rd_T82 l0_1 x4_1).f3.f2)] 82 (0, 0))) ∧ Aside0 (Below w.heap.size w wc))
            case first =>
             have H := HC102.out
             clear HC102
             replace H := Option.bind_eq_some_iff.mp H
             obtain ⟨t213, A1030, H⟩ := H
             replace H : (if t213 = x8_25 then ((quillref0_EqMarks.f kj25 x9_25 x10_25).bind fun t214 => (if t214 = true then ((quillref0_EqMarks.f kj25 t183 x3_1).bind fun t215 => (quilllaw6_MarksExact.j5 kj25 x3_1 x4_1 t183 x8_25 x9_25 x10_25 (!t215) l0_0 l0_1)) else (quilllaw6_MarksExact.j5 kj25 x3_1 x4_1 t183 x8_25 x9_25 x10_25 true l0_0 l0_1))) else (quilllaw6_MarksExact.j5 kj25 x3_1 x4_1 t183 x8_25 x9_25 x10_25 true l0_0 l0_1)) = some r := H
             have A103 := Aside0.mk A1030
             clear A1030
             by_cases c104 : t213 = x8_25
             ·
              rw [if_pos c104] at H
              have c104s := Aside0.mk c104
              have c104b0 : (t213 == x8_25) = true := beq_iff_eq.mpr c104
              have c104b1 : (t213 != x8_25) = false := bne_eq_false_iff_eq.mpr c104
              clear c104
              (first | rw [c104b0] | (simp only [i64_w, i32_w]; rw [c104b0]) | skip)
              replace H := Option.bind_eq_some_iff.mp H
              obtain ⟨t214, A1050, H⟩ := H
              replace H : (if t214 = true then ((quillref0_EqMarks.f kj25 t183 x3_1).bind fun t215 => (quilllaw6_MarksExact.j5 kj25 x3_1 x4_1 t183 x8_25 x9_25 x10_25 (!t215) l0_0 l0_1)) else (quilllaw6_MarksExact.j5 kj25 x3_1 x4_1 t183 x8_25 x9_25 x10_25 true l0_0 l0_1)) = some r := H
              have A105 := Aside0.mk A1050
              clear A1050
              by_cases c106 : t214 = true
              ·
               subst c106
               have H1 : ((quillref0_EqMarks.f kj25 t183 x3_1).bind fun t215 => (quilllaw6_MarksExact.j5 kj25 x3_1 x4_1 t183 x8_25 x9_25 x10_25 (!t215) l0_0 l0_1)) = some r := by rw [if_pos rfl] at H; exact H
               clear H
               have H := H1
               clear H1
               replace H := Option.bind_eq_some_iff.mp H
               obtain ⟨t215, A1070, H⟩ := H
               replace H : (quilllaw6_MarksExact.j5 kj25 x3_1 x4_1 t183 x8_25 x9_25 x10_25 (!t215) l0_0 l0_1) = some r := H
               have A107 := Aside0.mk A1070
               clear A1070
               have H' := Aside0.mk H
               clear H
               go_wp2_with (first | ((with_reducible refine gate_callee (f := 48) rfl ?_); refine goesL_ (some 130) rfl rfl Tryd.func48 (by kernel_rfl) rfl #[.int .i64 x11_25] rfl (by (try simp only [List.map_toArray, List.map_cons, List.map_nil]); first | done | rfl | (simp only [List.length_drop, List.length_take]; rfl)) ?_; (with_reducible refine (quilllaw6_num.calls x11_25 t213 _ A103.out).mono ?_); rintro e w' ⟨rfl, ⟨nd, rfl⟩⟩; refine ⟨_, rfl, ?_⟩; obtain ⟨Ao108, co108, eo108⟩ := Kd.R_slice HO_9.out; subst eo108; obtain ⟨Ao109, co109, eo109⟩ := Kd.R_slice HO_10.out; subst eo109) | (go_at_call 55; (with_reducible refine (quillref0_EqMarks.calls kj25 _ _ x9_25 _ _ x10_25 true _ ?side1 ?side2 ?side3 ?side4 A105.out).mono ?_); (case side1 => repeat (first | exact (Kd.R_reads' HO_9.out).2.2 | (with_reducible refine Kd.C_alloc ?_ _) | (with_reducible refine Kd.C_drewN ?_ _) | (with_reducible refine Kd.C_drew ?_))); (case side2 => exact (Kd.R_reads' HO_9.out).2.1); (case side3 => repeat (first | exact (Kd.R_reads' HO_10.out).2.2 | (with_reducible refine Kd.C_alloc ?_ _) | (with_reducible refine Kd.C_drewN ?_ _) | (with_reducible refine Kd.C_drew ?_))); (case side4 => exact (Kd.R_reads' HO_10.out).2.1); rintro e w' ⟨rfl, ⟨nd, rfl⟩⟩) | (go_at_call 55; (with_reducible refine (quillref0_EqMarks.calls kj25 _ _ t183 _ _ x3_1 t215 _ ?side1 ?side2 ?side3 ?side4 A107.out).mono ?_); (case side1 => repeat (first | exact (Kd.R_reads' HO_6.out).2.2 | (with_reducible refine Kd.C_alloc ?_ _) | (with_reducible refine Kd.C_drewN ?_ _) | (with_reducible refine Kd.C_drew ?_))); (case side2 => exact (Kd.R_reads' HO_6.out).2.1); (case side3 => repeat (first | exact (Kd.R_reads' HO_3.out).2.2 | (with_reducible refine Kd.C_alloc ?_ _) | (with_reducible refine Kd.C_drewN ?_ _) | (with_reducible refine Kd.C_drew ?_))); (case side4 => exact (Kd.R_reads' HO_3.out).2.1); rintro e w' ⟨rfl, ⟨nd, rfl⟩⟩))
               (try cases c104s.out)
               go_meet
               case rel => exact ⟨_, (!t215), (by first | rfl | (simp; done) | (simp [*]; done)), H', ⟨by have := HK1.out; have := HJ12.out; have := HJ25.out; first | omega | exact Nat.le_refl _⟩, ⟨by (with_reducible repeat (first | apply qa | apply qc | apply qb)); exact HO_3.out⟩, ⟨by (with_reducible repeat (first | apply qa | apply qc | apply qb)); exact HO_6.out⟩, ⟨by (with_reducible repeat (first | apply qa | apply qc | apply qb)); exact HO_9.out⟩, ⟨by (with_reducible repeat (first | apply qa | apply qc | apply qb)); exact HO_10.out⟩, ⟨by (with_reducible repeat (first | refine q4 ?_ _ | refine q5 ?_ | refine q6 ?_ _)); exact BK175.out⟩, ⟨by (with_reducible repeat (first | refine q4 ?_ _ | refine q5 ?_ | refine q6 ?_ _)); exact BK182.out⟩, ⟨by repeat (first | (with_reducible first | exact HB.out | apply q7 | apply q8 | apply q9 | refine below_set ?_ GE175.out | refine below_set ?_ GE182.out) | exact HB.out)⟩⟩
              ·
               replace c106 := Bool.eq_false_iff.mpr c106
               subst c106
               have H1 : (quilllaw6_MarksExact.j5 kj25 x3_1 x4_1 t183 x8_25 x9_25 x10_25 true l0_0 l0_1) = some r := by rw [if_neg (show ¬ (false = true) by decide)] at H; exact H
               clear H
               have H := H1
               clear H1
               have H' := Aside0.mk H
               clear H
               go_wp2_with (first | ((with_reducible refine gate_callee (f := 48) rfl ?_); refine goesL_ (some 130) rfl rfl Tryd.func48 (by kernel_rfl) rfl #[.int .i64 x11_25] rfl (by (try simp only [List.map_toArray, List.map_cons, List.map_nil]); first | done | rfl | (simp only [List.length_drop, List.length_take]; rfl)) ?_; (with_reducible refine (quilllaw6_num.calls x11_25 t213 _ A103.out).mono ?_); rintro e w' ⟨rfl, ⟨nd, rfl⟩⟩; refine ⟨_, rfl, ?_⟩; obtain ⟨Ao110, co110, eo110⟩ := Kd.R_slice HO_9.out; subst eo110; obtain ⟨Ao111, co111, eo111⟩ := Kd.R_slice HO_10.out; subst eo111) | (go_at_call 55; (with_reducible refine (quillref0_EqMarks.calls kj25 _ _ x9_25 _ _ x10_25 false _ ?side1 ?side2 ?side3 ?side4 A105.out).mono ?_); (case side1 => repeat (first | exact (Kd.R_reads' HO_9.out).2.2 | (with_reducible refine Kd.C_alloc ?_ _) | (with_reducible refine Kd.C_drewN ?_ _) | (with_reducible refine Kd.C_drew ?_))); (case side2 => exact (Kd.R_reads' HO_9.out).2.1); (case side3 => repeat (first | exact (Kd.R_reads' HO_10.out).2.2 | (with_reducible refine Kd.C_alloc ?_ _) | (with_reducible refine Kd.C_drewN ?_ _) | (with_reducible refine Kd.C_drew ?_))); (case side4 => exact (Kd.R_reads' HO_10.out).2.1); rintro e w' ⟨rfl, ⟨nd, rfl⟩⟩))
               (try cases c104s.out)
               go_meet
               case rel => exact ⟨_, (true), (by first | rfl | (simp; done) | (simp [*]; done)), H', ⟨by have := HK1.out; have := HJ12.out; have := HJ25.out; first | omega | exact Nat.le_refl _⟩, ⟨by (with_reducible repeat (first | apply qa | apply qc | apply qb)); exact HO_3.out⟩, ⟨by (with_reducible repeat (first | apply qa | apply qc | apply qb)); exact HO_6.out⟩, ⟨by (with_reducible repeat (first | apply qa | apply qc | apply qb)); exact HO_9.out⟩, ⟨by (with_reducible repeat (first | apply qa | apply qc | apply qb)); exact HO_10.out⟩, ⟨by (with_reducible repeat (first | refine q4 ?_ _ | refine q5 ?_ | refine q6 ?_ _)); exact BK175.out⟩, ⟨by (with_reducible repeat (first | refine q4 ?_ _ | refine q5 ?_ | refine q6 ?_ _)); exact BK182.out⟩, ⟨by repeat (first | (with_reducible first | exact HB.out | apply q7 | apply q8 | apply q9 | refine below_set ?_ GE175.out | refine below_set ?_ GE182.out) | exact HB.out)⟩⟩
             ·
              rw [if_neg c104] at H
              have c104b0 : (t213 == x8_25) = false := beq_eq_false_iff_ne.mpr c104
              have c104b1 : (t213 != x8_25) = true := bne_iff_ne.mpr c104
              (first | rw [c104b0] | (simp only [i64_w, i32_w]; rw [c104b0]) | skip)
              have H' := Aside0.mk H
              clear H
              go_wp2_with (first | ((with_reducible refine gate_callee (f := 48) rfl ?_); refine goesL_ (some 130) rfl rfl Tryd.func48 (by kernel_rfl) rfl #[.int .i64 x11_25] rfl (by (try simp only [List.map_toArray, List.map_cons, List.map_nil]); first | done | rfl | (simp only [List.length_drop, List.length_take]; rfl)) ?_; (with_reducible refine (quilllaw6_num.calls x11_25 t213 _ A103.out).mono ?_); rintro e w' ⟨rfl, ⟨nd, rfl⟩⟩; refine ⟨_, rfl, ?_⟩))
              go_meet
              case rel => exact ⟨_, (true), (by first | rfl | (simp; done) | (simp [*]; done)), H', ⟨by have := HK1.out; have := HJ12.out; have := HJ25.out; first | omega | exact Nat.le_refl _⟩, ⟨by (with_reducible repeat (first | apply qa | apply qc | apply qb)); exact HO_3.out⟩, ⟨by (with_reducible repeat (first | apply qa | apply qc | apply qb)); exact HO_6.out⟩, ⟨by (with_reducible repeat (first | apply qa | apply qc | apply qb)); exact HO_9.out⟩, ⟨by (with_reducible repeat (first | apply qa | apply qc | apply qb)); exact HO_10.out⟩, ⟨by (with_reducible repeat (first | refine q4 ?_ _ | refine q5 ?_ | refine q6 ?_ _)); exact BK175.out⟩, ⟨by (with_reducible repeat (first | refine q4 ?_ _ | refine q5 ?_ | refine q6 ?_ _)); exact BK182.out⟩, ⟨by repeat (first | (with_reducible first | exact HB.out | apply q7 | apply q8 | apply q9 | refine below_set ?_ GE175.out | refine below_set ?_ GE182.out) | exact HB.out)⟩⟩
            case rest =>
             clear HC102
             try clear c1
             try clear p1
             try clear q1
             try clear hx1
             try clear c2
             try clear p2
             try clear c3
             try clear c4
             try clear c5
             try clear c6
             try clear p6
             try clear c7
             try clear c8
             try clear c9
             try clear c10
             try clear c14
             try clear c14b0
             try clear c17
             try clear c18
             try clear c18b0
             try clear p18
             try clear q18
             try clear hx18
             try clear c19
             try clear c19b0
             try clear c24
             try clear c24b0
             try clear c24b1
             try clear c24b2
             try clear c29
             try clear c38
             try clear c38b0
             try clear c38b1
             try clear c39
             try clear c41
             try clear c43
             try clear c45
             try clear c46
             try clear c47
             try clear c48
             try clear c49
             try clear c50
             try clear c52
             try clear c53
             try clear c54
             try clear c56
             try clear c58
             try clear c60
             try clear c63
             try clear c63b0
             try clear c63b1
             try clear p64
             try clear c66
             try clear c69
             try clear c71
             try clear c71b0
             try clear c73
             try clear c75
             try clear c78
             try clear c78b0
             try clear c78b1
             try clear c79
             try clear c79b0
             try clear c79b1
             try clear c81
             try clear c83
             try clear c85
             try clear c87
             try clear c94
             try clear c99
             try clear c104
             try clear c104b0
             try clear c104b1
             try clear c106
             try clear hcz100_0
             try clear hcz100_1
             try clear hcz100_2
             try clear hcz100_3
             try clear hcz100_4
             try clear hcz100_5
             try clear hcz11_0
             try clear hcz11_1
             try clear hcz15_0
             try clear hcz15_1
             try clear hcz16_0
             try clear hcz16_1
             try clear hcz27_0
             try clear hcz27_1
             try clear hcz30_0
             try clear hcz30_1
             try clear hcz30_2
             try clear hcz30_3
             try clear hcz30_4
             try clear hcz30_5
             try clear hcz36_0
             try clear hcz36_1
             try clear hcz36_2
             try clear hcz36_3
             try clear hcz36_4
             try clear hcz36_5
             try clear hcz48_0
             try clear hcz48_1
             try clear hcz48_2
             try clear hcz48_3
             try clear hcz48_4
             try clear hcz48_5
             try clear hcz50_0
             try clear hcz50_1
             try clear hcz50_2
             try clear hcz50_3
             try clear hcz50_4
             try clear hcz50_5
             try clear hcz53_0
             try clear hcz53_1
             try clear hcz53_2
             try clear hcz53_3
             try clear hcz53_4
             try clear hcz53_5
             try clear hcz55_0
             try clear hcz55_1
             try clear hcz55_2
             try clear hcz55_3
             try clear hcz55_4
             try clear hcz55_5
             try clear hcz57_0
             try clear hcz57_1
             try clear hcz57_2
             try clear hcz57_3
             try clear hcz57_4
             try clear hcz57_5
             try clear hcz59_0
             try clear hcz59_1
             try clear hcz59_2
             try clear hcz59_3
             try clear hcz59_4
             try clear hcz59_5
             try clear hcz5_0
             try clear hcz5_1
             try clear hcz61_0
             try clear hcz61_1
             try clear hcz61_2
             try clear hcz61_3
             try clear hcz61_4
             try clear hcz61_5
             try clear hcz67_0
             try clear hcz67_1
             try clear hcz67_2
             try clear hcz67_3
             try clear hcz67_4
             try clear hcz67_5
             try clear hcz74_0
             try clear hcz74_1
             try clear hcz74_2
             try clear hcz74_3
             try clear hcz74_4
             try clear hcz74_5
             try clear hcz76_0
             try clear hcz76_1
             try clear hcz76_2
             try clear hcz76_3
             try clear hcz76_4
             try clear hcz76_5
             try clear hcz88_0
             try clear hcz88_1
             try clear hcz88_2
             try clear hcz88_3
             try clear hcz88_4
             try clear hcz88_5
             try clear hcz90_0
             try clear hcz90_1
             try clear hcz90_2
             try clear hcz90_3
             try clear hcz90_4
             try clear hcz90_5
             try clear hcz92_0
             try clear hcz92_1
             try clear hcz92_2
             try clear hcz92_3
             try clear hcz92_4
             try clear hcz92_5
             try clear hcz95_0
             try clear hcz95_1
             try clear hcz95_2
             try clear hcz95_3
             try clear hcz95_4
             try clear hcz95_5
             try clear hcz97_0
             try clear hcz97_1
             try clear hcz97_2
             try clear hcz97_3
             try clear hcz97_4
             try clear hcz97_5
             try clear hcz9_0
             try clear hcz9_1
             try clear hfz100_0
             try clear hfz100_1
             try clear hfz100_2
             try clear hfz100_3
             try clear hfz100_4
             try clear hfz100_5
             try clear hfz11_0
             try clear hfz11_1
             try clear hfz15_0
             try clear hfz15_1
             try clear hfz16_0
             try clear hfz16_1
             try clear hfz27_0
             try clear hfz27_1
             try clear hfz30_0
             try clear hfz30_1
             try clear hfz30_2
             try clear hfz30_3
             try clear hfz30_4
             try clear hfz30_5
             try clear hfz36_0
             try clear hfz36_1
             try clear hfz36_2
             try clear hfz36_3
             try clear hfz36_4
             try clear hfz36_5
             try clear hfz48_0
             try clear hfz48_1
             try clear hfz48_2
             try clear hfz48_3
             try clear hfz48_4
             try clear hfz48_5
             try clear hfz50_0
             try clear hfz50_1
             try clear hfz50_2
             try clear hfz50_3
             try clear hfz50_4
             try clear hfz50_5
             try clear hfz53_0
             try clear hfz53_1
             try clear hfz53_2
             try clear hfz53_3
             try clear hfz53_4
             try clear hfz53_5
             try clear hfz55_0
             try clear hfz55_1
             try clear hfz55_2
             try clear hfz55_3
             try clear hfz55_4
             try clear hfz55_5
             try clear hfz57_0
             try clear hfz57_1
             try clear hfz57_2
             try clear hfz57_3
             try clear hfz57_4
             try clear hfz57_5
             try clear hfz59_0
             try clear hfz59_1
             try clear hfz59_2
             try clear hfz59_3
             try clear hfz59_4
             try clear hfz59_5
             try clear hfz5_0
             try clear hfz5_1
             try clear hfz61_0
             try clear hfz61_1
             try clear hfz61_2
             try clear hfz61_3
             try clear hfz61_4
             try clear hfz61_5
             try clear hfz67_0
             try clear hfz67_1
             try clear hfz67_2
             try clear hfz67_3
             try clear hfz67_4
             try clear hfz67_5
             try clear hfz74_0
             try clear hfz74_1
             try clear hfz74_2
             try clear hfz74_3
             try clear hfz74_4
             try clear hfz74_5
             try clear hfz76_0
             try clear hfz76_1
             try clear hfz76_2
             try clear hfz76_3
             try clear hfz76_4
             try clear hfz76_5
             try clear hfz88_0
             try clear hfz88_1
             try clear hfz88_2
             try clear hfz88_3
             try clear hfz88_4
             try clear hfz88_5
             try clear hfz90_0
             try clear hfz90_1
             try clear hfz90_2
             try clear hfz90_3
             try clear hfz90_4
             try clear hfz90_5
             try clear hfz92_0
             try clear hfz92_1
             try clear hfz92_2
             try clear hfz92_3
             try clear hfz92_4
             try clear hfz92_5
             try clear hfz95_0
             try clear hfz95_1
             try clear hfz95_2
             try clear hfz95_3
             try clear hfz95_4
             try clear hfz95_5
             try clear hfz97_0
             try clear hfz97_1
             try clear hfz97_2
             try clear hfz97_3
             try clear hfz97_4
             try clear hfz97_5
             try clear hfz9_0
             try clear hfz9_1
             try clear hx181_0
             try clear hx181_1
             try clear hx181_2
             try clear hx181_3
             try clear hx181_4
             try clear hx181_5
             try clear p1
             try clear p18
             try clear p181
             try clear p2
             try clear p6
             try clear p64
             try clear q1
             try clear q18
             try clear q181
             obtain ⟨kq, x144_101, rfl, HA, HJ101, HO_3, HO_6, HO_9, HO_10, BK175, BK182, HB⟩ := hcut
             cases kq with
             | zero => exact absurd HA.out (by simp [quilllaw6_MarksExact.j5])
             | succ kj101 =>
              have H := HA.out
              clear HA
              simp only [quilllaw6_MarksExact.j5] at H
              by_cases c112 : x144_101 = true
              ·
               subst c112
               have H1 : (some false) = some r := by rw [if_pos rfl] at H; exact H
               clear H
               have H := H1
               clear H1
               exact absurd (H.trans (congrArg some HRT.out)) (by decide)
              ·
               replace c112 := Bool.eq_false_iff.mpr c112
               subst c112
               have H1 : ((quilllaw6_spoil.f kj101 x9_25).bind fun t216 => ((quillref0_EqMarks.f kj101 t183 x3_1).bind fun t217 => (if t217 = true then (if x8_25 = 0 then ((quillref0_CopyMarks.f kj101 x10_25).bind fun t218 => (quilllaw6_MarksExact.l0 kj101 t218 (wrap64 (x4_1 + 1)) l0_0 l0_1)) else (quilllaw6_MarksExact.l0 kj101 x3_1 (wrap64 (x4_1 + 1)) l0_0 l0_1)) else (some false)))) = some r := by rw [if_neg (show ¬ (false = true) by decide)] at H; exact H
               clear H
               have H := H1
               clear H1
               replace H := Option.bind_eq_some_iff.mp H
               obtain ⟨t216, A1130, H⟩ := H
               replace H : ((quillref0_EqMarks.f kj101 t183 x3_1).bind fun t217 => (if t217 = true then (if x8_25 = 0 then ((quillref0_CopyMarks.f kj101 x10_25).bind fun t218 => (quilllaw6_MarksExact.l0 kj101 t218 (wrap64 (x4_1 + 1)) l0_0 l0_1)) else (quilllaw6_MarksExact.l0 kj101 x3_1 (wrap64 (x4_1 + 1)) l0_0 l0_1)) else (some false))) = some r := H
               have A113 := Aside0.mk A1130
               clear A1130
               replace H := Option.bind_eq_some_iff.mp H
               obtain ⟨t217, A1140, H⟩ := H
               replace H : (if t217 = true then (if x8_25 = 0 then ((quillref0_CopyMarks.f kj101 x10_25).bind fun t218 => (quilllaw6_MarksExact.l0 kj101 t218 (wrap64 (x4_1 + 1)) l0_0 l0_1)) else (quilllaw6_MarksExact.l0 kj101 x3_1 (wrap64 (x4_1 + 1)) l0_0 l0_1)) else (some false)) = some r := H
               have A114 := Aside0.mk A1140
               clear A1140
               by_cases c115 : t217 = true
               ·
                subst c115
                have H1 : (if x8_25 = 0 then ((quillref0_CopyMarks.f kj101 x10_25).bind fun t218 => (quilllaw6_MarksExact.l0 kj101 t218 (wrap64 (x4_1 + 1)) l0_0 l0_1)) else (quilllaw6_MarksExact.l0 kj101 x3_1 (wrap64 (x4_1 + 1)) l0_0 l0_1)) = some r := by rw [if_pos rfl] at H; exact H
                clear H
                have H := H1
                clear H1
                by_cases c116 : x8_25 = 0
                ·
                 rw [if_pos c116] at H
                 have c116b0 : (x8_25 == 0) = true := beq_iff_eq.mpr c116
                 have c116b1 : (x8_25 != 0) = false := bne_eq_false_iff_eq.mpr c116
                 clear c116
                 replace H := Option.bind_eq_some_iff.mp H
                 obtain ⟨t218, A1170, H⟩ := H
                 replace H : (quilllaw6_MarksExact.l0 kj101 t218 (wrap64 (x4_1 + 1)) l0_0 l0_1) = some r := H
                 have A117 := Aside0.mk A1170
                 clear A1170
                 have H' := Aside0.mk H
                 clear H
                 obtain ⟨Ao118, co118, eo118⟩ := Kd.R_slice HO_9.out
                 subst eo118
                 go_wp2_with (first | ((with_reducible refine gate_callee (f := 59) rfl ?_); refine goesL_ (some 146) rfl rfl Tryd.func59 (by kernel_rfl) rfl #[.slice Ao118 x9_25.length co118] rfl (by (try simp only [List.map_toArray, List.map_cons, List.map_nil]); first | done | rfl | (simp only [List.length_drop, List.length_take]; rfl)) ?_; (with_reducible refine (quilllaw6_spoil.calls kj101 (fun k_ => some k_ = (.slice Ao118 x9_25.length co118 : Value).ownBlock) (.slice Ao118 x9_25.length co118) x9_25 t216 w _ ?side1 ?side2 A113.out).mono ?_); (case side1 => repeat (first | (with_reducible first | exact HB.out | apply q7 | apply q8 | apply q9 | refine below_set ?_ GE175.out | refine below_set ?_ GE182.out) | exact HB.out)); (case side2 => exact Kd.R_tight rfl HO_9.out); rintro e w119 ⟨rfl, hy0, hb, hkp⟩; refine ⟨_, rfl, ?_⟩; have n0_ := Aside0.mk (Kd.R_mono (ok' := fun k_ => some k_ ≠ (.slice Ao34 t183.length co34 : Value).ownBlock ∧ some k_ ≠ (.slice Ao118 x9_25.length co118 : Value).ownBlock ∧ some k_ ≠ (u10 : Value).ownBlock) (Kd.R_keptB (HO_3.out) hkp (fun k_ hk_ hs_ => (hk_.2.1) hs_)) (fun k_ hk_ => ⟨hk_.1.1, hk_.1.2.1, hk_.1.2.2⟩)); have n1_ := Aside0.mk (Kd.R_mono (ok' := fun k_ => some k_ ≠ (.slice Ao31 x3_1.length co31 : Value).ownBlock ∧ some k_ ≠ (.slice Ao118 x9_25.length co118 : Value).ownBlock ∧ some k_ ≠ (u10 : Value).ownBlock) (Kd.R_keptB (HO_6.out) hkp (fun k_ hk_ hs_ => (hk_.2.1) hs_)) (fun k_ hk_ => ⟨hk_.1.1, hk_.1.2.1, hk_.1.2.2⟩)); have n2_ := Aside0.mk (Kd.R_reok rfl hy0 (fun k_ e_ => HO_9.out.1 k_ e_)); have n3_ := Aside0.mk (Kd.R_mono (ok' := fun k_ => some k_ ≠ (.slice Ao31 x3_1.length co31 : Value).ownBlock ∧ some k_ ≠ (.slice Ao34 t183.length co34 : Value).ownBlock ∧ some k_ ≠ (.slice Ao118 x9_25.length co118 : Value).ownBlock) (Kd.R_keptB (HO_10.out) hkp (fun k_ hk_ hs_ => (hk_.2.2) hs_)) (fun k_ hk_ => ⟨hk_.1.1, hk_.1.2.1, hk_.1.2.2⟩)); have n4_ := Aside0.mk (blk_kept (by (with_reducible repeat (first | refine q4 ?_ _ | refine q5 ?_ | refine q6 ?_ _)); exact BK175.out) hkp (fun hs_ => (fun e_ => (Kd.R_ne HO_9.out BK175.out (by decide)) e_) hs_)); have n5_ := Aside0.mk (blk_kept (by (with_reducible repeat (first | refine q4 ?_ _ | refine q5 ?_ | refine q6 ?_ _)); exact BK182.out) hkp (fun hs_ => (fun e_ => (Kd.R_ne HO_9.out BK182.out (by decide)) e_) hs_)); have n6_ := Aside0.mk (hb); clear HO_3; clear HO_6; clear HO_9; clear HO_10; clear BK175; clear BK182; clear HB; have HO_3 := n0_; have HO_6 := n1_; have HO_9 := n2_; have HO_10 := n3_; have BK175 := n4_; have BK182 := n5_; have HB := n6_; clear n0_ n1_ n2_ n3_ n4_ n5_ n6_; (try clear hb); (try clear hkp); (try clear hy0)) | ((with_reducible refine gate_callee (f := 55) rfl ?_); refine goesL_ (some 149) rfl rfl Tryd.func55 (by kernel_rfl) rfl #[.slice Ao34 t183.length co34, .slice Ao31 x3_1.length co31] rfl (by (try simp only [List.map_toArray, List.map_cons, List.map_nil]); first | done | rfl | (simp only [List.length_drop, List.length_take]; rfl)) ?_; (with_reducible refine (quillref0_EqMarks.calls kj101 _ _ t183 _ _ x3_1 true _ ?side1 ?side2 ?side3 ?side4 A114.out).mono ?_); (case side1 => repeat (first | exact (Kd.R_reads' HO_6.out).2.2 | (with_reducible refine Kd.C_alloc ?_ _) | (with_reducible refine Kd.C_drewN ?_ _) | (with_reducible refine Kd.C_drew ?_))); (case side2 => exact (Kd.R_reads' HO_6.out).2.1); (case side3 => repeat (first | exact (Kd.R_reads' HO_3.out).2.2 | (with_reducible refine Kd.C_alloc ?_ _) | (with_reducible refine Kd.C_drewN ?_ _) | (with_reducible refine Kd.C_drew ?_))); (case side4 => exact (Kd.R_reads' HO_3.out).2.1); rintro e w' ⟨rfl, ⟨nd, rfl⟩⟩; refine ⟨_, rfl, ?_⟩; obtain ⟨Ao120, co120, eo120⟩ := Kd.R_slice HO_10.out; subst eo120) | ((with_reducible refine gate_callee (f := 46) rfl ?_); refine goesL_ (some 154) rfl rfl Tryd.func46 (by kernel_rfl) rfl #[.slice Ao120 x10_25.length co120] rfl (by (try simp only [List.map_toArray, List.map_cons, List.map_nil]); first | done | rfl | (simp only [List.length_drop, List.length_take]; rfl)) ?_; (with_reducible refine (quillref0_CopyMarks.calls kj101 _ _ x10_25 t218 _ ?side1 ?side2 A117.out).mono ?_); (case side1 => repeat (first | exact (Kd.R_reads' HO_10.out).2.2 | (with_reducible refine Kd.C_alloc ?_ _) | (with_reducible refine Kd.C_drewN ?_ _) | (with_reducible refine Kd.C_drew ?_))); (case side2 => exact (Kd.R_reads' HO_10.out).2.1); rintro e w121 ⟨v219, rfl, ho0, hb⟩; refine ⟨_, rfl, ?_⟩; have n0_ := Aside0.mk (Kd.R_elder' (by (with_reducible repeat (first | apply qa | apply qc | apply qb)); exact HO_3.out) (Kd.R_base ho0) hb); have n1_ := Aside0.mk (Kd.R_elder' (by (with_reducible repeat (first | apply qa | apply qc | apply qb)); exact HO_6.out) (Kd.R_base ho0) hb); have n2_ := Aside0.mk (Kd.R_elder' (by (with_reducible repeat (first | apply qa | apply qc | apply qb)); exact HO_9.out) (Kd.R_base ho0) hb); have n3_ := Aside0.mk (Kd.R_elder' (by (with_reducible repeat (first | apply qa | apply qc | apply qb)); exact HO_10.out) (Kd.R_base ho0) hb); have n4_ := Aside0.mk (Kd.R_lower (Kd.R_new' (Kd.R_new' (Kd.R_new' (Kd.R_new' ho0 (Kd.R_lt (by (with_reducible repeat (first | apply qa | apply qc | apply qb)); exact HO_3.out))) (Kd.R_lt (by (with_reducible repeat (first | apply qa | apply qc | apply qb)); exact HO_6.out))) (Kd.R_lt (by (with_reducible repeat (first | apply qa | apply qc | apply qb)); exact HO_9.out))) (Kd.R_lt (by (with_reducible repeat (first | apply qa | apply qc | apply qb)); exact HO_10.out))) (below_size (by repeat (first | (with_reducible first | exact HB.out | apply q7 | apply q8 | apply q9 | refine below_set ?_ GE175.out | refine below_set ?_ GE182.out) | exact HB.out)))); have n5_ := Aside0.mk (blk_below (g := gb175) (o := .cells #[.slice A0_0 l0_0.length c0_0, .slice (some ad181) l0_1.length c0_1] 76 (0, 0)) (by (with_reducible repeat (first | refine q4 ?_ _ | refine q5 ?_ | refine q6 ?_ _)); exact BK175.out) hb); have n6_ := Aside0.mk (blk_below (g := gb182) (o := .cells #[.int .i64 ((rd_T82 l0_1 x4_1).f0), .int .i64 ((rd_T82 l0_1 x4_1).f1), .int .i64 ((rd_T82 l0_1 x4_1).f2), .int .i64 ((rd_T82 l0_1 x4_1).f3.f0), .int .i64 ((rd_T82 l0_1 x4_1).f3.f1), .string ((rd_T82 l0_1 x4_1).f3.f2)] 82 (0, 0)) (by (with_reducible repeat (first | refine q4 ?_ _ | refine q5 ?_ | refine q6 ?_ _)); exact BK182.out) hb); have n7_ := Aside0.mk (below_step (by repeat (first | (with_reducible first | exact HB.out | apply q7 | apply q8 | apply q9 | refine below_set ?_ GE175.out | refine below_set ?_ GE182.out) | exact HB.out)) hb); clear HO_3; clear HO_6; clear HO_9; clear HO_10; clear BK175; clear BK182; clear HB; have HO_3 := n0_; have HO_6 := n1_; have HO_9 := n2_; have HO_10 := n3_; have HO220 := n4_; have BK175 := n5_; have BK182 := n6_; have HB := n7_; clear n0_ n1_ n2_ n3_ n4_ n5_ n6_ n7_; (try clear hb); (try clear hb2); (try clear hk); (try clear hi); (try clear ho0)))
                 go_roundg kj101
                 case measure => have := HK1.out; have := HJ12.out; have := HJ25.out; have := HJ101.out; omega
                 case rel => exact ⟨(t218), (wrap64 (x4_1 + 1)), (by first | rfl | (simp; done) | (simp [*]; done)), H', ⟨by have := HK1.out; have := HJ12.out; have := HJ25.out; have := HJ101.out; omega⟩, ⟨by (with_reducible repeat (first | apply qa | apply qc | apply qb)); exact Kd.R_mono HO220.out (fun _ hk => trivial)⟩, ⟨by (with_reducible repeat (first | refine q4 ?_ _ | refine q5 ?_ | refine q6 ?_ _)); exact BK175.out⟩, ⟨by repeat (first | (with_reducible first | exact HB.out | apply q7 | apply q8 | apply q9 | refine below_set ?_ GE175.out | refine below_set ?_ GE182.out) | exact HB.out)⟩⟩
                ·
                 rw [if_neg c116] at H
                 have c116b0 : (x8_25 == 0) = false := beq_eq_false_iff_ne.mpr c116
                 have c116b1 : (x8_25 != 0) = true := bne_iff_ne.mpr c116
                 have H' := Aside0.mk H
                 clear H
                 obtain ⟨Ao122, co122, eo122⟩ := Kd.R_slice HO_9.out
                 subst eo122
                 go_wp2_with (first | ((with_reducible refine gate_callee (f := 59) rfl ?_); refine goesL_ (some 146) rfl rfl Tryd.func59 (by kernel_rfl) rfl #[.slice Ao122 x9_25.length co122] rfl (by (try simp only [List.map_toArray, List.map_cons, List.map_nil]); first | done | rfl | (simp only [List.length_drop, List.length_take]; rfl)) ?_; (with_reducible refine (quilllaw6_spoil.calls kj101 (fun k_ => some k_ = (.slice Ao122 x9_25.length co122 : Value).ownBlock) (.slice Ao122 x9_25.length co122) x9_25 t216 w _ ?side1 ?side2 A113.out).mono ?_); (case side1 => repeat (first | (with_reducible first | exact HB.out | apply q7 | apply q8 | apply q9 | refine below_set ?_ GE175.out | refine below_set ?_ GE182.out) | exact HB.out)); (case side2 => exact Kd.R_tight rfl HO_9.out); rintro e w123 ⟨rfl, hy0, hb, hkp⟩; refine ⟨_, rfl, ?_⟩; have n0_ := Aside0.mk (Kd.R_mono (ok' := fun k_ => some k_ ≠ (.slice Ao34 t183.length co34 : Value).ownBlock ∧ some k_ ≠ (.slice Ao122 x9_25.length co122 : Value).ownBlock ∧ some k_ ≠ (u10 : Value).ownBlock) (Kd.R_keptB (HO_3.out) hkp (fun k_ hk_ hs_ => (hk_.2.1) hs_)) (fun k_ hk_ => ⟨hk_.1.1, hk_.1.2.1, hk_.1.2.2⟩)); have n1_ := Aside0.mk (Kd.R_mono (ok' := fun k_ => some k_ ≠ (.slice Ao31 x3_1.length co31 : Value).ownBlock ∧ some k_ ≠ (.slice Ao122 x9_25.length co122 : Value).ownBlock ∧ some k_ ≠ (u10 : Value).ownBlock) (Kd.R_keptB (HO_6.out) hkp (fun k_ hk_ hs_ => (hk_.2.1) hs_)) (fun k_ hk_ => ⟨hk_.1.1, hk_.1.2.1, hk_.1.2.2⟩)); have n2_ := Aside0.mk (Kd.R_reok rfl hy0 (fun k_ e_ => HO_9.out.1 k_ e_)); have n3_ := Aside0.mk (Kd.R_mono (ok' := fun k_ => some k_ ≠ (.slice Ao31 x3_1.length co31 : Value).ownBlock ∧ some k_ ≠ (.slice Ao34 t183.length co34 : Value).ownBlock ∧ some k_ ≠ (.slice Ao122 x9_25.length co122 : Value).ownBlock) (Kd.R_keptB (HO_10.out) hkp (fun k_ hk_ hs_ => (hk_.2.2) hs_)) (fun k_ hk_ => ⟨hk_.1.1, hk_.1.2.1, hk_.1.2.2⟩)); have n4_ := Aside0.mk (blk_kept (by (with_reducible repeat (first | refine q4 ?_ _ | refine q5 ?_ | refine q6 ?_ _)); exact BK175.out) hkp (fun hs_ => (fun e_ => (Kd.R_ne HO_9.out BK175.out (by decide)) e_) hs_)); have n5_ := Aside0.mk (blk_kept (by (with_reducible repeat (first | refine q4 ?_ _ | refine q5 ?_ | refine q6 ?_ _)); exact BK182.out) hkp (fun hs_ => (fun e_ => (Kd.R_ne HO_9.out BK182.out (by decide)) e_) hs_)); have n6_ := Aside0.mk (hb); clear HO_3; clear HO_6; clear HO_9; clear HO_10; clear BK175; clear BK182; clear HB; have HO_3 := n0_; have HO_6 := n1_; have HO_9 := n2_; have HO_10 := n3_; have BK175 := n4_; have BK182 := n5_; have HB := n6_; clear n0_ n1_ n2_ n3_ n4_ n5_ n6_; (try clear hb); (try clear hkp); (try clear hy0)) | ((with_reducible refine gate_callee (f := 55) rfl ?_); refine goesL_ (some 149) rfl rfl Tryd.func55 (by kernel_rfl) rfl #[.slice Ao34 t183.length co34, .slice Ao31 x3_1.length co31] rfl (by (try simp only [List.map_toArray, List.map_cons, List.map_nil]); first | done | rfl | (simp only [List.length_drop, List.length_take]; rfl)) ?_; (with_reducible refine (quillref0_EqMarks.calls kj101 _ _ t183 _ _ x3_1 true _ ?side1 ?side2 ?side3 ?side4 A114.out).mono ?_); (case side1 => repeat (first | exact (Kd.R_reads' HO_6.out).2.2 | (with_reducible refine Kd.C_alloc ?_ _) | (with_reducible refine Kd.C_drewN ?_ _) | (with_reducible refine Kd.C_drew ?_))); (case side2 => exact (Kd.R_reads' HO_6.out).2.1); (case side3 => repeat (first | exact (Kd.R_reads' HO_3.out).2.2 | (with_reducible refine Kd.C_alloc ?_ _) | (with_reducible refine Kd.C_drewN ?_ _) | (with_reducible refine Kd.C_drew ?_))); (case side4 => exact (Kd.R_reads' HO_3.out).2.1); rintro e w' ⟨rfl, ⟨nd, rfl⟩⟩; refine ⟨_, rfl, ?_⟩))
                 go_roundg kj101
                 case measure => have := HK1.out; have := HJ12.out; have := HJ25.out; have := HJ101.out; omega
                 case rel => exact ⟨(x3_1), (wrap64 (x4_1 + 1)), (by first | rfl | (simp; done) | (simp [*]; done)), H', ⟨by have := HK1.out; have := HJ12.out; have := HJ25.out; have := HJ101.out; omega⟩, ⟨by (with_reducible repeat (first | apply qa | apply qc | apply qb)); exact Kd.R_mono HO_3.out (fun _ hk => trivial)⟩, ⟨by (with_reducible repeat (first | refine q4 ?_ _ | refine q5 ?_ | refine q6 ?_ _)); exact BK175.out⟩, ⟨by repeat (first | (with_reducible first | exact HB.out | apply q7 | apply q8 | apply q9 | refine below_set ?_ GE175.out | refine below_set ?_ GE182.out) | exact HB.out)⟩⟩
               ·
                replace c115 := Bool.eq_false_iff.mpr c115
                subst c115
                have H1 : (some false) = some r := by rw [if_neg (show ¬ (false = true) by decide)] at H; exact H
                clear H
                have H := H1
                clear H1
                exact absurd (H.trans (congrArg some HRT.out)) (by decide)
        ·
         rw [if_neg c19] at H
         exact absurd H (by simp)
       ·
        rw [if_neg c18] at H
        exact absurd H (by simp)
      ·
       replace c17 := Bool.eq_false_iff.mpr c17
       subst c17
       have H1 : ((quilllaw6_wakes.f).bind fun t180 => (some t180)) = some r := by rw [if_neg (show ¬ (false = true) by decide)] at H; exact H
       clear H
       have H := H1
       clear H1
       replace H := Option.bind_eq_some_iff.mp H
       obtain ⟨t180, A1240, H⟩ := H
       replace H : (some t180) = some r := H
       have A124 := Aside0.mk A1240
       clear A1240
       obtain rfl := Option.some.inj H
       go_wp2_with (first | ((with_reducible refine gate_callee (f := 60) rfl ?_); refine goesL_ (some 155) rfl rfl Tryd.func60 (by kernel_rfl) rfl #[] rfl (by (try simp only [List.map_toArray, List.map_cons, List.map_nil]); first | done | rfl | (simp only [List.length_drop, List.length_take]; rfl)) ?_; (with_reducible refine (quilllaw6_wakes.calls  t180 _ A124.out).mono ?_); rintro e w125 ⟨rfl, hb⟩; refine ⟨_, rfl, ?_⟩; have n0_ := Aside0.mk (Kd.R_below (by (with_reducible repeat (first | apply qa | apply qc | apply qb)); exact HO_3.out) hb); have n1_ := Aside0.mk (blk_below (g := gb175) (o := .cells #[.slice A0_0 l0_0.length c0_0, .slice A0_1 l0_1.length c0_1] 76 (0, 0)) (by (with_reducible repeat (first | refine q4 ?_ _ | refine q5 ?_ | refine q6 ?_ _)); exact BK175.out) hb); have n2_ := Aside0.mk (below_step (by repeat (first | (with_reducible first | exact HB.out | apply q7 | apply q8 | apply q9 | refine below_set ?_ GE175.out) | exact HB.out)) hb); clear HO_3; clear BK175; clear HB; have HO_3 := n0_; have BK175 := n1_; have HB := n2_; clear n0_ n1_ n2_; (try clear hb); (try clear hb2); (try clear hk); (try clear hi)))
       go_ret
       exact ⟨by first | rfl | (simp [errW_none, errW_some] <;> rfl) | (simp [*, errW_none, errW_some] <;> rfl), by repeat (first | (with_reducible first | exact HB.out | apply q7 | apply q8 | apply q9 | refine below_set ?_ GE175.out) | exact HB.out)⟩

end Go.Proofs.YtdoebjnfnmfnnaaDoor.Me
