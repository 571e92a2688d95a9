-- printed by wip/tools/pr.py out of the translation; Lean checks it
import Derived.Test.YtfiapekpeiapbaaDoorPvx0
import Derived.Test.YtfiapekpeiapbaaDoorPvx1
namespace Go.Proofs.YtfiapekpeiapbaaDoor.Pv
open Go.Proofs.YtfiapekpeiapbaaDoor.F Go.Proofs.YtfiapekpeiapbaaDoor.Q Go.RowKit Go.Proofs.YtfiapekpeiapbaaDoorW.PrintWords Go.Proofs.YtfiapekpeiapbaaDoorW.PrintLast Go.Proofs.YtfiapekpeiapbaaDoorW.PrintMore
attribute [local go_sem] max2_int min2_int max_two min_two max_three min_three max_four min_four   -- for this text's walks alone
set_option linter.unusedVariables false
set_option linter.unusedSimpArgs false

/-! ### quilllaw13_ParasMove: function 7 -/
mutual
def quilllaw13_ParasMove.l0 : Nat → Int → List ByteArray → Int → Int → Int → Int → Int → Int → Int → Option (Bool)
  | 0, _, _, _, _, _, _, _, _, _ => none
  | k + 1, x3, x130000, x130001, x130002, x130003, x130004, x130005, x130006, x130007 => if x3 < (x130000.length : Int) then (quilllaw13_ParasMove.j1 k x3 (decide (x3 < 5)) x130000 x130001 x130002 x130003 x130004 x130005 x130006 x130007) else (quilllaw13_ParasMove.j1 k x3 false x130000 x130001 x130002 x130003 x130004 x130005 x130006 x130007)
def quilllaw13_ParasMove.j1 : Nat → Int → Bool → List ByteArray → Int → Int → Int → Int → Int → Int → Int → Option (Bool)
  | 0, _, _, _, _, _, _, _, _, _, _ => none
  | k + 1, x3, x26, x130000, x130001, x130002, x130003, x130004, x130005, x130006, x130007 => if x26 = true then (if 0 ≤ x3 then (if x3 < (x130000.length : Int) then ((cv_9_52.f (rdOf ByteArray.empty x130000 x3)).bind fun t133 => ((quilllaw10_Offsets.f k x130000 x130001 x130002 x130003 x130004 x130005 x130006 x130007 t133).bind fun t136 => (quilllaw13_ParasMove.l1 k x3 t133 t136 (([123, 125, x130005] : List Int)) 0 x130000 x130001 x130002 x130003 x130004 x130005 x130006 x130007))) else (none)) else (none)) else ((quilllaw13_wakes.f).bind fun t131 => (some t131))
def quilllaw13_ParasMove.l1 : Nat → Int → List Int → List Int → List Int → Int → List ByteArray → Int → Int → Int → Int → Int → Int → Int → Option (Bool)
  | 0, _, _, _, _, _, _, _, _, _, _, _, _, _ => none
  | k + 1, x3, x4, x5, x6, x7, x130000, x130001, x130002, x130003, x130004, x130005, x130006, x130007 => if x7 < (x6.length : Int) then (quilllaw13_ParasMove.l2 k x3 x4 x5 x6 x7 0 x130000 x130001 x130002 x130003 x130004 x130005 x130006 x130007) else (quilllaw13_ParasMove.l0 k (wrap64 (x3 + 1)) x130000 x130001 x130002 x130003 x130004 x130005 x130006 x130007)
def quilllaw13_ParasMove.l2 : Nat → Int → List Int → List Int → List Int → Int → Int → List ByteArray → Int → Int → Int → Int → Int → Int → Int → Option (Bool)
  | 0, _, _, _, _, _, _, _, _, _, _, _, _, _, _ => none
  | k + 1, x3, x4, x5, x6, x7, x8, x130000, x130001, x130002, x130003, x130004, x130005, x130006, x130007 => if x8 < (x5.length : Int) then (quilllaw13_ParasMove.l3 k x3 x4 x5 x6 x7 x8 (([1, wrap64 (1 + (Int.tmod x8 3)), x130006] : List Int)) 0 x130000 x130001 x130002 x130003 x130004 x130005 x130006 x130007) else (quilllaw13_ParasMove.l1 k x3 x4 x5 x6 (wrap64 (x7 + 1)) x130000 x130001 x130002 x130003 x130004 x130005 x130006 x130007)
def quilllaw13_ParasMove.l3 : Nat → Int → List Int → List Int → List Int → Int → Int → List Int → Int → List ByteArray → Int → Int → Int → Int → Int → Int → Int → Option (Bool)
  | 0, _, _, _, _, _, _, _, _, _, _, _, _, _, _, _, _ => none
  | k + 1, x3, x4, x5, x6, x7, x8, x9, x10, x130000, x130001, x130002, x130003, x130004, x130005, x130006, x130007 => if x10 < 3 then (if 0 ≤ x3 then (if x3 < (x130000.length : Int) then (if 0 ≤ x8 then (if x8 < (x5.length : Int) then (if 0 ≤ x7 then (if x7 < (x6.length : Int) then (if 0 ≤ x10 then (if x10 < (x9.length : Int) then ((paras_Move.f (rdOf ByteArray.empty x130000 x3) (rd x5 x8) (rd x6 x7) (rd x9 x10)).bind fun bt149 => ((quillref1_May.f k (rdOf ByteArray.empty x130000 x3)).bind fun t152 => (if t152 = true then ((quillref0_Num.f (rd x5 x8) (x4.length : Int)).bind fun t154 => (if t154 = true then (if (rd x6 x7) = 123 then ((quillref0_Between.f (rd x9 x10) 1 999).bind fun t157 => (quilllaw13_ParasMove.j5 k x3 x4 x5 x6 x7 x8 x9 x10 bt149.1 bt149.2 1 0 t157 x130000 x130001 x130002 x130003 x130004 x130005 x130006 x130007)) else (if (rd x6 x7) = 125 then ((quillref0_Between.f (rd x9 x10) 1 999).bind fun t160 => (quilllaw13_ParasMove.j5 k x3 x4 x5 x6 x7 x8 x9 x10 bt149.1 bt149.2 1 0 t160 x130000 x130001 x130002 x130003 x130004 x130005 x130006 x130007)) else (quilllaw13_ParasMove.j5 k x3 x4 x5 x6 x7 x8 x9 x10 bt149.1 bt149.2 1 0 false x130000 x130001 x130002 x130003 x130004 x130005 x130006 x130007))) else (quilllaw13_ParasMove.j5 k x3 x4 x5 x6 x7 x8 x9 x10 bt149.1 bt149.2 1 0 false x130000 x130001 x130002 x130003 x130004 x130005 x130006 x130007))) else (quilllaw13_ParasMove.j5 k x3 x4 x5 x6 x7 x8 x9 x10 bt149.1 bt149.2 1 0 false x130000 x130001 x130002 x130003 x130004 x130005 x130006 x130007)))) else (none)) else (none)) else (none)) else (none)) else (none)) else (none)) else (none)) else (none)) else (quilllaw13_ParasMove.l2 k x3 x4 x5 x6 x7 (wrap64 (x8 + 1)) x130000 x130001 x130002 x130003 x130004 x130005 x130006 x130007)
def quilllaw13_ParasMove.j5 : Nat → Int → List Int → List Int → List Int → Int → Int → List Int → Int → Int → Int → Int → Int → Bool → List ByteArray → Int → Int → Int → Int → Int → Int → Int → Option (Bool)
  | 0, _, _, _, _, _, _, _, _, _, _, _, _, _, _, _, _, _, _, _, _, _ => none
  | k + 1, x3, x4, x5, x6, x7, x8, x9, x10, x11, x12, x13, x14, x122, x130000, x130001, x130002, x130003, x130004, x130005, x130006, x130007 => if x122 = true then (if 0 ≤ x8 then (if x8 < (x5.length : Int) then (if 0 ≤ x7 then (if x7 < (x6.length : Int) then (if 0 ≤ x10 then (if x10 < (x9.length : Int) then ((quillref12_Paras.f k x4 (rd x5 x8) (rd x6 x7) (rd x9 x10)).bind fun bt164 => ((quilllaw13_num.f x12).bind fun t166 => (if t166 = bt164.2 then (if x11 = bt164.1 then (quilllaw13_ParasMove.l3 k x3 x4 x5 x6 x7 x8 x9 (wrap64 (x10 + 1)) x130000 x130001 x130002 x130003 x130004 x130005 x130006 x130007) else (some false)) else (some false)))) else (none)) else (none)) else (none)) else (none)) else (none)) else (none)) else ((quilllaw13_num.f x12).bind fun t167 => (if t167 = x13 then (if x11 = x14 then (quilllaw13_ParasMove.l3 k x3 x4 x5 x6 x7 x8 x9 (wrap64 (x10 + 1)) x130000 x130001 x130002 x130003 x130004 x130005 x130006 x130007) else (some false)) else (some false)))
end
def quilllaw13_ParasMove.f (k : Nat) (l0_0 : List ByteArray) (a0_1 : Int) (a0_2 : Int) (a0_3 : Int) (a0_4 : Int) (a0_5 : Int) (a0_6 : Int) (a0_7 : Int) : Option (Bool) := (quilllaw10_Heavy.f k l0_0 a0_1 a0_2 a0_3 a0_4 a0_5 a0_6 a0_7).bind fun t130 => (if t130 = true then (some true) else (quilllaw13_ParasMove.l0 k 0 l0_0 a0_1 a0_2 a0_3 a0_4 a0_5 a0_6 a0_7))
theorem quilllaw13_ParasMove.mono_l : ∀ k, (∀ y0 y1 y2 y3 y4 y5 y6 y7 y8, LeO (quilllaw13_ParasMove.l0 k y0 y1 y2 y3 y4 y5 y6 y7 y8) (quilllaw13_ParasMove.l0 (k + 1) y0 y1 y2 y3 y4 y5 y6 y7 y8)) ∧ (∀ y0 y1 y2 y3 y4 y5 y6 y7 y8 y9, LeO (quilllaw13_ParasMove.j1 k y0 y1 y2 y3 y4 y5 y6 y7 y8 y9) (quilllaw13_ParasMove.j1 (k + 1) y0 y1 y2 y3 y4 y5 y6 y7 y8 y9)) ∧ (∀ y0 y1 y2 y3 y4 y5 y6 y7 y8 y9 y10 y11 y12, LeO (quilllaw13_ParasMove.l1 k y0 y1 y2 y3 y4 y5 y6 y7 y8 y9 y10 y11 y12) (quilllaw13_ParasMove.l1 (k + 1) y0 y1 y2 y3 y4 y5 y6 y7 y8 y9 y10 y11 y12)) ∧ (∀ y0 y1 y2 y3 y4 y5 y6 y7 y8 y9 y10 y11 y12 y13, LeO (quilllaw13_ParasMove.l2 k y0 y1 y2 y3 y4 y5 y6 y7 y8 y9 y10 y11 y12 y13) (quilllaw13_ParasMove.l2 (k + 1) y0 y1 y2 y3 y4 y5 y6 y7 y8 y9 y10 y11 y12 y13)) ∧ (∀ y0 y1 y2 y3 y4 y5 y6 y7 y8 y9 y10 y11 y12 y13 y14 y15, LeO (quilllaw13_ParasMove.l3 k y0 y1 y2 y3 y4 y5 y6 y7 y8 y9 y10 y11 y12 y13 y14 y15) (quilllaw13_ParasMove.l3 (k + 1) y0 y1 y2 y3 y4 y5 y6 y7 y8 y9 y10 y11 y12 y13 y14 y15)) ∧ (∀ y0 y1 y2 y3 y4 y5 y6 y7 y8 y9 y10 y11 y12 y13 y14 y15 y16 y17 y18 y19 y20, LeO (quilllaw13_ParasMove.j5 k y0 y1 y2 y3 y4 y5 y6 y7 y8 y9 y10 y11 y12 y13 y14 y15 y16 y17 y18 y19 y20) (quilllaw13_ParasMove.j5 (k + 1) y0 y1 y2 y3 y4 y5 y6 y7 y8 y9 y10 y11 y12 y13 y14 y15 y16 y17 y18 y19 y20))
  | 0 => ⟨fun _ _ _ _ _ _ _ _ _ r h => by simp [quilllaw13_ParasMove.l0] at h, fun _ _ _ _ _ _ _ _ _ _ r h => by simp [quilllaw13_ParasMove.j1] at h, fun _ _ _ _ _ _ _ _ _ _ _ _ _ r h => by simp [quilllaw13_ParasMove.l1] at h, fun _ _ _ _ _ _ _ _ _ _ _ _ _ _ r h => by simp [quilllaw13_ParasMove.l2] at h, fun _ _ _ _ _ _ _ _ _ _ _ _ _ _ _ _ r h => by simp [quilllaw13_ParasMove.l3] at h, fun _ _ _ _ _ _ _ _ _ _ _ _ _ _ _ _ _ _ _ _ _ r h => by simp [quilllaw13_ParasMove.j5] at h⟩
  | k + 1 => by
    obtain ⟨ih0, ih1, ih2, ih3, ih4, ih5⟩ := quilllaw13_ParasMove.mono_l k
    refine ⟨?_, ?_, ?_, ?_, ?_, ?_⟩
    · intro y0 y1 y2 y3 y4 y5 y6 y7 y8
      unfold quilllaw13_ParasMove.l0
      repeat' first
      | (with_reducible exact ih0 _ _ _ _ _ _ _ _ _)
      | (with_reducible exact ih1 _ _ _ _ _ _ _ _ _ _)
      | (with_reducible exact ih2 _ _ _ _ _ _ _ _ _ _ _ _ _)
      | (with_reducible exact ih3 _ _ _ _ _ _ _ _ _ _ _ _ _ _)
      | (with_reducible exact ih4 _ _ _ _ _ _ _ _ _ _ _ _ _ _ _ _)
      | (with_reducible exact ih5 _ _ _ _ _ _ _ _ _ _ _ _ _ _ _ _ _ _ _ _ _)
      | (with_reducible exact quilllaw10_Heavy.mono _ _ _ _ _ _ _ _ _)
      | (with_reducible exact quilllaw10_Offsets.mono _ _ _ _ _ _ _ _ _ _)
      | (with_reducible exact quillref12_Paras.mono _ _ _ _ _)
      | (with_reducible exact quillref1_May.mono _ _)
      | (with_reducible exact LeO.refl _)
      | (with_reducible exact LeO.none _)
      | (with_reducible refine LeO.ite ?_ ?_)
      | (with_reducible refine LeO.bind ?_ (fun _ => ?_))
      | exact ih0 _ _ _ _ _ _ _ _ _
      | exact ih1 _ _ _ _ _ _ _ _ _ _
      | exact ih2 _ _ _ _ _ _ _ _ _ _ _ _ _
      | exact ih3 _ _ _ _ _ _ _ _ _ _ _ _ _ _
      | exact ih4 _ _ _ _ _ _ _ _ _ _ _ _ _ _ _ _
      | exact ih5 _ _ _ _ _ _ _ _ _ _ _ _ _ _ _ _ _ _ _ _ _
      | exact quilllaw10_Heavy.mono _ _ _ _ _ _ _ _ _
      | exact quilllaw10_Offsets.mono _ _ _ _ _ _ _ _ _ _
      | exact quillref12_Paras.mono _ _ _ _ _
      | exact quillref1_May.mono _ _
      | exact LeO.none _
      | refine LeO.ite ?_ ?_
      | refine LeO.bind ?_ (fun _ => ?_)
    · intro y0 y1 y2 y3 y4 y5 y6 y7 y8 y9
      unfold quilllaw13_ParasMove.j1
      repeat' first
      | (with_reducible exact ih0 _ _ _ _ _ _ _ _ _)
      | (with_reducible exact ih1 _ _ _ _ _ _ _ _ _ _)
      | (with_reducible exact ih2 _ _ _ _ _ _ _ _ _ _ _ _ _)
      | (with_reducible exact ih3 _ _ _ _ _ _ _ _ _ _ _ _ _ _)
      | (with_reducible exact ih4 _ _ _ _ _ _ _ _ _ _ _ _ _ _ _ _)
      | (with_reducible exact ih5 _ _ _ _ _ _ _ _ _ _ _ _ _ _ _ _ _ _ _ _ _)
      | (with_reducible exact quilllaw10_Heavy.mono _ _ _ _ _ _ _ _ _)
      | (with_reducible exact quilllaw10_Offsets.mono _ _ _ _ _ _ _ _ _ _)
      | (with_reducible exact quillref12_Paras.mono _ _ _ _ _)
      | (with_reducible exact quillref1_May.mono _ _)
      | (with_reducible exact LeO.refl _)
      | (with_reducible exact LeO.none _)
      | (with_reducible refine LeO.ite ?_ ?_)
      | (with_reducible refine LeO.bind ?_ (fun _ => ?_))
      | exact ih0 _ _ _ _ _ _ _ _ _
      | exact ih1 _ _ _ _ _ _ _ _ _ _
      | exact ih2 _ _ _ _ _ _ _ _ _ _ _ _ _
      | exact ih3 _ _ _ _ _ _ _ _ _ _ _ _ _ _
      | exact ih4 _ _ _ _ _ _ _ _ _ _ _ _ _ _ _ _
      | exact ih5 _ _ _ _ _ _ _ _ _ _ _ _ _ _ _ _ _ _ _ _ _
      | exact quilllaw10_Heavy.mono _ _ _ _ _ _ _ _ _
      | exact quilllaw10_Offsets.mono _ _ _ _ _ _ _ _ _ _
      | exact quillref12_Paras.mono _ _ _ _ _
      | exact quillref1_May.mono _ _
      | exact LeO.none _
      | refine LeO.ite ?_ ?_
      | refine LeO.bind ?_ (fun _ => ?_)
    · intro y0 y1 y2 y3 y4 y5 y6 y7 y8 y9 y10 y11 y12
      unfold quilllaw13_ParasMove.l1
      repeat' first
      | (with_reducible exact ih0 _ _ _ _ _ _ _ _ _)
      | (with_reducible exact ih1 _ _ _ _ _ _ _ _ _ _)
      | (with_reducible exact ih2 _ _ _ _ _ _ _ _ _ _ _ _ _)
      | (with_reducible exact ih3 _ _ _ _ _ _ _ _ _ _ _ _ _ _)
      | (with_reducible exact ih4 _ _ _ _ _ _ _ _ _ _ _ _ _ _ _ _)
      | (with_reducible exact ih5 _ _ _ _ _ _ _ _ _ _ _ _ _ _ _ _ _ _ _ _ _)
      | (with_reducible exact quilllaw10_Heavy.mono _ _ _ _ _ _ _ _ _)
      | (with_reducible exact quilllaw10_Offsets.mono _ _ _ _ _ _ _ _ _ _)
      | (with_reducible exact quillref12_Paras.mono _ _ _ _ _)
      | (with_reducible exact quillref1_May.mono _ _)
      | (with_reducible exact LeO.refl _)
      | (with_reducible exact LeO.none _)
      | (with_reducible refine LeO.ite ?_ ?_)
      | (with_reducible refine LeO.bind ?_ (fun _ => ?_))
      | exact ih0 _ _ _ _ _ _ _ _ _
      | exact ih1 _ _ _ _ _ _ _ _ _ _
      | exact ih2 _ _ _ _ _ _ _ _ _ _ _ _ _
      | exact ih3 _ _ _ _ _ _ _ _ _ _ _ _ _ _
      | exact ih4 _ _ _ _ _ _ _ _ _ _ _ _ _ _ _ _
      | exact ih5 _ _ _ _ _ _ _ _ _ _ _ _ _ _ _ _ _ _ _ _ _
      | exact quilllaw10_Heavy.mono _ _ _ _ _ _ _ _ _
      | exact quilllaw10_Offsets.mono _ _ _ _ _ _ _ _ _ _
      | exact quillref12_Paras.mono _ _ _ _ _
      | exact quillref1_May.mono _ _
      | exact LeO.none _
      | refine LeO.ite ?_ ?_
      | refine LeO.bind ?_ (fun _ => ?_)
    · intro y0 y1 y2 y3 y4 y5 y6 y7 y8 y9 y10 y11 y12 y13
      unfold quilllaw13_ParasMove.l2
      repeat' first
      | (with_reducible exact ih0 _ _ _ _ _ _ _ _ _)
      | (with_reducible exact ih1 _ _ _ _ _ _ _ _ _ _)
      | (with_reducible exact ih2 _ _ _ _ _ _ _ _ _ _ _ _ _)
      | (with_reducible exact ih3 _ _ _ _ _ _ _ _ _ _ _ _ _ _)
      | (with_reducible exact ih4 _ _ _ _ _ _ _ _ _ _ _ _ _ _ _ _)
      | (with_reducible exact ih5 _ _ _ _ _ _ _ _ _ _ _ _ _ _ _ _ _ _ _ _ _)
      | (with_reducible exact quilllaw10_Heavy.mono _ _ _ _ _ _ _ _ _)
      | (with_reducible exact quilllaw10_Offsets.mono _ _ _ _ _ _ _ _ _ _)
      | (with_reducible exact quillref12_Paras.mono _ _ _ _ _)
      | (with_reducible exact quillref1_May.mono _ _)
      | (with_reducible exact LeO.refl _)
      | (with_reducible exact LeO.none _)
      | (with_reducible refine LeO.ite ?_ ?_)
      | (with_reducible refine LeO.bind ?_ (fun _ => ?_))
      | exact ih0 _ _ _ _ _ _ _ _ _
      | exact ih1 _ _ _ _ _ _ _ _ _ _
      | exact ih2 _ _ _ _ _ _ _ _ _ _ _ _ _
      | exact ih3 _ _ _ _ _ _ _ _ _ _ _ _ _ _
      | exact ih4 _ _ _ _ _ _ _ _ _ _ _ _ _ _ _ _
      | exact ih5 _ _ _ _ _ _ _ _ _ _ _ _ _ _ _ _ _ _ _ _ _
      | exact quilllaw10_Heavy.mono _ _ _ _ _ _ _ _ _
      | exact quilllaw10_Offsets.mono _ _ _ _ _ _ _ _ _ _
      | exact quillref12_Paras.mono _ _ _ _ _
      | exact quillref1_May.mono _ _
      | exact LeO.none _
      | refine LeO.ite ?_ ?_
      | refine LeO.bind ?_ (fun _ => ?_)
    · intro y0 y1 y2 y3 y4 y5 y6 y7 y8 y9 y10 y11 y12 y13 y14 y15
      unfold quilllaw13_ParasMove.l3
      repeat' first
      | (with_reducible exact ih0 _ _ _ _ _ _ _ _ _)
      | (with_reducible exact ih1 _ _ _ _ _ _ _ _ _ _)
      | (with_reducible exact ih2 _ _ _ _ _ _ _ _ _ _ _ _ _)
      | (with_reducible exact ih3 _ _ _ _ _ _ _ _ _ _ _ _ _ _)
      | (with_reducible exact ih4 _ _ _ _ _ _ _ _ _ _ _ _ _ _ _ _)
      | (with_reducible exact ih5 _ _ _ _ _ _ _ _ _ _ _ _ _ _ _ _ _ _ _ _ _)
      | (with_reducible exact quilllaw10_Heavy.mono _ _ _ _ _ _ _ _ _)
      | (with_reducible exact quilllaw10_Offsets.mono _ _ _ _ _ _ _ _ _ _)
      | (with_reducible exact quillref12_Paras.mono _ _ _ _ _)
      | (with_reducible exact quillref1_May.mono _ _)
      | (with_reducible exact LeO.refl _)
      | (with_reducible exact LeO.none _)
      | (with_reducible refine LeO.ite ?_ ?_)
      | (with_reducible refine LeO.bind ?_ (fun _ => ?_))
      | exact ih0 _ _ _ _ _ _ _ _ _
      | exact ih1 _ _ _ _ _ _ _ _ _ _
      | exact ih2 _ _ _ _ _ _ _ _ _ _ _ _ _
      | exact ih3 _ _ _ _ _ _ _ _ _ _ _ _ _ _
      | exact ih4 _ _ _ _ _ _ _ _ _ _ _ _ _ _ _ _
      | exact ih5 _ _ _ _ _ _ _ _ _ _ _ _ _ _ _ _ _ _ _ _ _
      | exact quilllaw10_Heavy.mono _ _ _ _ _ _ _ _ _
      | exact quilllaw10_Offsets.mono _ _ _ _ _ _ _ _ _ _
      | exact quillref12_Paras.mono _ _ _ _ _
      | exact quillref1_May.mono _ _
      | exact LeO.none _
      | refine LeO.ite ?_ ?_
      | refine LeO.bind ?_ (fun _ => ?_)
    · intro y0 y1 y2 y3 y4 y5 y6 y7 y8 y9 y10 y11 y12 y13 y14 y15 y16 y17 y18 y19 y20
      unfold quilllaw13_ParasMove.j5
      repeat' first
      | (with_reducible exact ih0 _ _ _ _ _ _ _ _ _)
      | (with_reducible exact ih1 _ _ _ _ _ _ _ _ _ _)
      | (with_reducible exact ih2 _ _ _ _ _ _ _ _ _ _ _ _ _)
      | (with_reducible exact ih3 _ _ _ _ _ _ _ _ _ _ _ _ _ _)
      | (with_reducible exact ih4 _ _ _ _ _ _ _ _ _ _ _ _ _ _ _ _)
      | (with_reducible exact ih5 _ _ _ _ _ _ _ _ _ _ _ _ _ _ _ _ _ _ _ _ _)
      | (with_reducible exact quilllaw10_Heavy.mono _ _ _ _ _ _ _ _ _)
      | (with_reducible exact quilllaw10_Offsets.mono _ _ _ _ _ _ _ _ _ _)
      | (with_reducible exact quillref12_Paras.mono _ _ _ _ _)
      | (with_reducible exact quillref1_May.mono _ _)
      | (with_reducible exact LeO.refl _)
      | (with_reducible exact LeO.none _)
      | (with_reducible refine LeO.ite ?_ ?_)
      | (with_reducible refine LeO.bind ?_ (fun _ => ?_))
      | exact ih0 _ _ _ _ _ _ _ _ _
      | exact ih1 _ _ _ _ _ _ _ _ _ _
      | exact ih2 _ _ _ _ _ _ _ _ _ _ _ _ _
      | exact ih3 _ _ _ _ _ _ _ _ _ _ _ _ _ _
      | exact ih4 _ _ _ _ _ _ _ _ _ _ _ _ _ _ _ _
      | exact ih5 _ _ _ _ _ _ _ _ _ _ _ _ _ _ _ _ _ _ _ _ _
      | exact quilllaw10_Heavy.mono _ _ _ _ _ _ _ _ _
      | exact quilllaw10_Offsets.mono _ _ _ _ _ _ _ _ _ _
      | exact quillref12_Paras.mono _ _ _ _ _
      | exact quillref1_May.mono _ _
      | exact LeO.none _
      | refine LeO.ite ?_ ?_
      | refine LeO.bind ?_ (fun _ => ?_)
theorem quilllaw13_ParasMove.mono : ∀ a0 a1 a2 a3 a4 a5 a6 a7 k, LeO (quilllaw13_ParasMove.f k a0 a1 a2 a3 a4 a5 a6 a7) (quilllaw13_ParasMove.f (k + 1) a0 a1 a2 a3 a4 a5 a6 a7) := by
  intro a0 a1 a2 a3 a4 a5 a6 a7 k
  obtain ⟨ih0, ih1, ih2, ih3, ih4, ih5⟩ := quilllaw13_ParasMove.mono_l k
  unfold quilllaw13_ParasMove.f
  repeat' first
      | (with_reducible exact ih0 _ _ _ _ _ _ _ _ _)
      | (with_reducible exact ih1 _ _ _ _ _ _ _ _ _ _)
      | (with_reducible exact ih2 _ _ _ _ _ _ _ _ _ _ _ _ _)
      | (with_reducible exact ih3 _ _ _ _ _ _ _ _ _ _ _ _ _ _)
      | (with_reducible exact ih4 _ _ _ _ _ _ _ _ _ _ _ _ _ _ _ _)
      | (with_reducible exact ih5 _ _ _ _ _ _ _ _ _ _ _ _ _ _ _ _ _ _ _ _ _)
      | (with_reducible exact quilllaw10_Heavy.mono _ _ _ _ _ _ _ _ _)
      | (with_reducible exact quilllaw10_Offsets.mono _ _ _ _ _ _ _ _ _ _)
      | (with_reducible exact quillref12_Paras.mono _ _ _ _ _)
      | (with_reducible exact quillref1_May.mono _ _)
      | (with_reducible exact LeO.refl _)
      | (with_reducible exact LeO.none _)
      | (with_reducible refine LeO.ite ?_ ?_)
      | (with_reducible refine LeO.bind ?_ (fun _ => ?_))
      | exact ih0 _ _ _ _ _ _ _ _ _
      | exact ih1 _ _ _ _ _ _ _ _ _ _
      | exact ih2 _ _ _ _ _ _ _ _ _ _ _ _ _
      | exact ih3 _ _ _ _ _ _ _ _ _ _ _ _ _ _
      | exact ih4 _ _ _ _ _ _ _ _ _ _ _ _ _ _ _ _
      | exact ih5 _ _ _ _ _ _ _ _ _ _ _ _ _ _ _ _ _ _ _ _ _
      | exact quilllaw10_Heavy.mono _ _ _ _ _ _ _ _ _
      | exact quilllaw10_Offsets.mono _ _ _ _ _ _ _ _ _ _
      | exact quillref12_Paras.mono _ _ _ _ _
      | exact quillref1_May.mono _ _
      | exact LeO.none _
      | refine LeO.ite ?_ ?_
      | refine LeO.bind ?_ (fun _ => ?_)
def quilllaw13_ParasMove.T19 : Bool × List (List Nat × List Nat) := (true, [([], []), ([0], [0]), ([1], [1]), ([], []), ([2, 3], [2, 3]), ([4], [4]), ([], []), ([], []), ([6, 7], [6, 7]), ([8], [8]), ([], []), ([], []), ([10, 11], [10, 11]), ([12], [12]), ([], []), ([], []), ([14, 15], [14, 15]), ([16], [16]), ([5, 9, 13, 17], [5, 9, 13, 17]), ([18], [18]), ([19], [19]), ([19], [19]), ([20, 18, 0, 1, 2, 3, 4, 5, 6, 7, 8, 9, 10, 11, 12, 13, 14, 15, 16, 17, 18, 19, 20], [20]), ([21, 22, 0, 1, 2, 3, 4, 5, 6, 7, 8, 9, 10, 11, 12, 13, 14, 15, 16, 17, 18, 19, 20, 21, 22], [21])])
def quilllaw13_ParasMove.B19 : List Nat := [0, 1, 3, 0, 15, 31, 0, 0, 192, 448, 0, 0, 3072, 7168, 0, 0, 49152, 114688, 262143, 524287, 1048575, 1048575, 2097151, 8388607]
theorem quilllaw13_ParasMove.tab19 : rtab .any (opsOf Tryd.f7 19) = quilllaw13_ParasMove.T19 := by kernel_rfl
theorem quilllaw13_ParasMove.bits19 : waitsOk quilllaw13_ParasMove.T19.2 quilllaw13_ParasMove.B19 = true := by kernel_rfl
def quilllaw13_ParasMove.T22 : Bool × List (List Nat × List Nat) := (true, [([], []), ([], []), ([], []), ([1, 2], [1, 2]), ([3], [3]), ([], []), ([], []), ([5, 6], [5, 6]), ([7], [7]), ([], []), ([], []), ([9, 10], [9, 10]), ([11], [11]), ([0, 4, 8, 12], [0, 4, 8, 12]), ([13], [13]), ([14], [14]), ([14], [14]), ([15, 13, 0, 1, 2, 3, 4, 5, 6, 7, 8, 9, 10, 11, 12, 13, 14, 15], [15]), ([16, 17, 0, 1, 2, 3, 4, 5, 6, 7, 8, 9, 10, 11, 12, 13, 14, 15, 16, 17], [16])])
def quilllaw13_ParasMove.B22 : List Nat := [0, 0, 0, 6, 14, 0, 0, 96, 224, 0, 0, 1536, 3584, 8191, 16383, 32767, 32767, 65535, 262143]
theorem quilllaw13_ParasMove.tab22 : rtab .any (opsOf Tryd.f7 22) = quilllaw13_ParasMove.T22 := by kernel_rfl
theorem quilllaw13_ParasMove.bits22 : waitsOk quilllaw13_ParasMove.T22.2 quilllaw13_ParasMove.B22 = true := by kernel_rfl
set_option maxHeartbeats 8000000 in
set_option maxRecDepth 100000 in
theorem quilllaw13_ParasMove.calls (k : Nat) (A0_0 : Option Addr) (c0_0 : Nat) (l0_0 : List ByteArray) (a0_1 : Int) (a0_2 : Int) (a0_3 : Int) (a0_4 : Int) (a0_5 : Int) (a0_6 : Int) (a0_7 : Int) (r : Bool) (w : World) (hr0_0 : Kd.C Kd.string w A0_0 l0_0.length l0_0) (hc0_0 : l0_0.length ≤ c0_0) (hT : TabsOk w) (hr_ : r = true) (h : quilllaw13_ParasMove.f k l0_0 a0_1 a0_2 a0_3 a0_4 a0_5 a0_6 a0_7 = some r) :
    Calls Tryd.prog 7 #[.agg #[.slice A0_0 l0_0.length c0_0, .int .i64 a0_1, .int .i64 a0_2, .int .i64 a0_3, .int .i64 a0_4, .int .i64 a0_5, .int .i64 a0_6, .int .i64 a0_7]] w fun e w' => e = .returned (.bool r) ∧ Below w.heap.size w w' := by
  have hu50 := Tryd.underlying50
  have HR0_0 := Aside0.mk hr0_0
  have HC0_0 := Aside0.mk hc0_0
  clear hr0_0 hc0_0
  have HT := Aside0.mk hT
  clear hT
  have HRT := Aside0.mk hr_
  clear hr_
  have HB := Aside0.mk (Below.refl w.heap.size w)
  have H : ((quilllaw10_Heavy.f k l0_0 a0_1 a0_2 a0_3 a0_4 a0_5 a0_6 a0_7).bind fun t130 => (if t130 = true then (some true) else (quilllaw13_ParasMove.l0 k 0 l0_0 a0_1 a0_2 a0_3 a0_4 a0_5 a0_6 a0_7))) = some r := h
  clear h
  replace H := Option.bind_eq_some_iff.mp H
  obtain ⟨t130, A20, H⟩ := H
  replace H : (if t130 = true then (some true) else (quilllaw13_ParasMove.l0 k 0 l0_0 a0_1 a0_2 a0_3 a0_4 a0_5 a0_6 a0_7)) = some r := H
  have A2 := Aside0.mk A20
  clear A20
  by_cases c3 : t130 = true
  · subst c3
    have H1 : (some true) = some r := by rw [if_pos rfl] at H; exact H
    clear H
    have H := H1
    clear H1
    obtain rfl := Option.some.inj H
    go_enter Tryd.func7, Tryd.ntmps7
    go_wp2_with (first | ((with_reducible refine gate_dst (N := 1) rfl ?_); (try (refine gate_guard (by rfl) ?_; dsimp only)); refine box_event ?hg (N := 1) ?hd (cs := #[.slice A0_0 l0_0.length c0_0, .int .i64 a0_1, .int .i64 a0_2, .int .i64 a0_3, .int .i64 a0_4, .int .i64 a0_5, .int .i64 a0_6, .int .i64 a0_7]) (t := 50) ?hr ?_; (case hd => rfl); (case hg => rfl); (case hr => first | (go_simp; done) | (go_simp; rfl)); intro gb129 hg w4 hbox hb; have n0_ := Aside0.mk (below_step (by repeat (first | (with_reducible first | exact HB.out | apply below_alloc | apply pw_below_drewN | apply below_drew1) | exact HB.out)) hb); have n1_ := Aside0.mk (hbox); have n2_ := Aside0.mk ((by rw [hg]; exact (below_size (by repeat (first | (with_reducible first | exact HB.out | apply below_alloc | apply pw_below_drewN | apply below_drew1) | exact HB.out))) : w.heap.size ≤ gb129)); have n3_ := Aside0.mk ((by rw [hg]; exact (below_size (by repeat (first | (with_reducible first | exact HB.out | apply below_alloc | apply pw_below_drewN | apply below_drew1) | exact HB.out))) : w.heap.size ≤ gb129)); clear HB; have HB := n0_; have BK129 := n1_; have GW129 := n2_; have GE129 := n3_; clear n0_ n1_ n2_ n3_; clear hb hbox hg; have hcz5_0 : w4.cell? ⟨gb129, 0, none⟩ = some (.slice A0_0 l0_0.length c0_0) := (blk_cell BK129.out 0).trans rfl; have hcz5_1 : w4.cell? ⟨gb129, 1, none⟩ = some (.int .i64 a0_1) := (blk_cell BK129.out 1).trans rfl; have hcz5_2 : w4.cell? ⟨gb129, 2, none⟩ = some (.int .i64 a0_2) := (blk_cell BK129.out 2).trans rfl; have hcz5_3 : w4.cell? ⟨gb129, 3, none⟩ = some (.int .i64 a0_3) := (blk_cell BK129.out 3).trans rfl; have hcz5_4 : w4.cell? ⟨gb129, 4, none⟩ = some (.int .i64 a0_4) := (blk_cell BK129.out 4).trans rfl; have hcz5_5 : w4.cell? ⟨gb129, 5, none⟩ = some (.int .i64 a0_5) := (blk_cell BK129.out 5).trans rfl; have hcz5_6 : w4.cell? ⟨gb129, 6, none⟩ = some (.int .i64 a0_6) := (blk_cell BK129.out 6).trans rfl; have hcz5_7 : w4.cell? ⟨gb129, 7, none⟩ = some (.int .i64 a0_7) := (blk_cell BK129.out 7).trans rfl; have hfz5_0 := blk_frozen BK129.out 0; have hfz5_1 := blk_frozen BK129.out 1; have hfz5_2 := blk_frozen BK129.out 2; have hfz5_3 := blk_frozen BK129.out 3; have hfz5_4 := blk_frozen BK129.out 4; have hfz5_5 := blk_frozen BK129.out 5; have hfz5_6 := blk_frozen BK129.out 6; have hfz5_7 := blk_frozen BK129.out 7) | ((with_reducible refine gate_callee (f := 25) rfl ?_); refine goesL_ (some 16) rfl rfl Tryd.func25 (by kernel_rfl) rfl #[.agg #[.slice A0_0 l0_0.length c0_0, .int .i64 a0_1, .int .i64 a0_2, .int .i64 a0_3, .int .i64 a0_4, .int .i64 a0_5, .int .i64 a0_6, .int .i64 a0_7]] rfl (by (try simp only [List.map_toArray, List.map_cons, List.map_nil]); first | done | rfl | (simp only [List.length_drop, List.length_take]; rfl)) ?_; (with_reducible refine (quilllaw10_Heavy.calls k _ _ l0_0 a0_1 a0_2 a0_3 a0_4 a0_5 a0_6 a0_7 true _ ?side1 ?side2 A2.out).mono ?_); (case side1 => repeat (first | exact (Kd.C_below HR0_0.out HB.out) | (with_reducible refine Kd.C_alloc ?_ _) | (with_reducible refine Kd.C_drewN ?_ _) | (with_reducible refine Kd.C_drew ?_))); (case side2 => exact HC0_0.out); rintro e w6 ⟨rfl, hb⟩; refine ⟨_, rfl, ?_⟩; have n0_ := Aside0.mk (blk_below (g := gb129) (o := .cells #[.slice A0_0 l0_0.length c0_0, .int .i64 a0_1, .int .i64 a0_2, .int .i64 a0_3, .int .i64 a0_4, .int .i64 a0_5, .int .i64 a0_6, .int .i64 a0_7] 50 (0, 0)) (by (with_reducible repeat (first | refine blk_drewN ?_ _ | refine blk_drew ?_ | refine blk_alloc ?_ _)); exact BK129.out) hb); have n1_ := Aside0.mk (below_step (by repeat (first | (with_reducible first | exact HB.out | apply below_alloc | apply pw_below_drewN | apply below_drew1 | refine below_set ?_ GE129.out) | exact HB.out)) hb); clear BK129; clear HB; have BK129 := n0_; have HB := n1_; clear n0_ n1_; (try clear hb); (try clear hb2); (try clear hk); (try clear hi)))
    go_ret
    exact ⟨by first | rfl | (simp [errW_none, errW_some] <;> rfl) | (simp [*, errW_none, errW_some] <;> rfl), by repeat (first | (with_reducible first | exact HB.out | apply below_alloc | apply pw_below_drewN | apply below_drew1 | refine below_set ?_ GE129.out) | exact HB.out)⟩
  · replace c3 := Bool.eq_false_iff.mpr c3
    subst c3
    have H1 : (quilllaw13_ParasMove.l0 k 0 l0_0 a0_1 a0_2 a0_3 a0_4 a0_5 a0_6 a0_7) = some r := by rw [if_neg (show ¬ (false = true) by decide)] at H; exact H
    clear H
    have H := H1
    clear H1
    have H' := Aside0.mk H
    clear H
    go_enter Tryd.func7, Tryd.ntmps7
    go_wp2_with (first | ((with_reducible refine gate_dst (N := 1) rfl ?_); (try (refine gate_guard (by rfl) ?_; dsimp only)); refine box_event ?hg (N := 1) ?hd (cs := #[.slice A0_0 l0_0.length c0_0, .int .i64 a0_1, .int .i64 a0_2, .int .i64 a0_3, .int .i64 a0_4, .int .i64 a0_5, .int .i64 a0_6, .int .i64 a0_7]) (t := 50) ?hr ?_; (case hd => rfl); (case hg => rfl); (case hr => first | (go_simp; done) | (go_simp; rfl)); intro gb129 hg w7 hbox hb; have n0_ := Aside0.mk (below_step (by repeat (first | (with_reducible first | exact HB.out | apply below_alloc | apply pw_below_drewN | apply below_drew1) | exact HB.out)) hb); have n1_ := Aside0.mk (hbox); have n2_ := Aside0.mk ((by rw [hg]; exact (below_size (by repeat (first | (with_reducible first | exact HB.out | apply below_alloc | apply pw_below_drewN | apply below_drew1) | exact HB.out))) : w.heap.size ≤ gb129)); have n3_ := Aside0.mk ((by rw [hg]; exact (below_size (by repeat (first | (with_reducible first | exact HB.out | apply below_alloc | apply pw_below_drewN | apply below_drew1) | exact HB.out))) : w.heap.size ≤ gb129)); clear HB; have HB := n0_; have BK129 := n1_; have GW129 := n2_; have GE129 := n3_; clear n0_ n1_ n2_ n3_; clear hb hbox hg; have hcz8_0 : w7.cell? ⟨gb129, 0, none⟩ = some (.slice A0_0 l0_0.length c0_0) := (blk_cell BK129.out 0).trans rfl; have hcz8_1 : w7.cell? ⟨gb129, 1, none⟩ = some (.int .i64 a0_1) := (blk_cell BK129.out 1).trans rfl; have hcz8_2 : w7.cell? ⟨gb129, 2, none⟩ = some (.int .i64 a0_2) := (blk_cell BK129.out 2).trans rfl; have hcz8_3 : w7.cell? ⟨gb129, 3, none⟩ = some (.int .i64 a0_3) := (blk_cell BK129.out 3).trans rfl; have hcz8_4 : w7.cell? ⟨gb129, 4, none⟩ = some (.int .i64 a0_4) := (blk_cell BK129.out 4).trans rfl; have hcz8_5 : w7.cell? ⟨gb129, 5, none⟩ = some (.int .i64 a0_5) := (blk_cell BK129.out 5).trans rfl; have hcz8_6 : w7.cell? ⟨gb129, 6, none⟩ = some (.int .i64 a0_6) := (blk_cell BK129.out 6).trans rfl; have hcz8_7 : w7.cell? ⟨gb129, 7, none⟩ = some (.int .i64 a0_7) := (blk_cell BK129.out 7).trans rfl; have hfz8_0 := blk_frozen BK129.out 0; have hfz8_1 := blk_frozen BK129.out 1; have hfz8_2 := blk_frozen BK129.out 2; have hfz8_3 := blk_frozen BK129.out 3; have hfz8_4 := blk_frozen BK129.out 4; have hfz8_5 := blk_frozen BK129.out 5; have hfz8_6 := blk_frozen BK129.out 6; have hfz8_7 := blk_frozen BK129.out 7) | ((with_reducible refine gate_callee (f := 25) rfl ?_); refine goesL_ (some 16) rfl rfl Tryd.func25 (by kernel_rfl) rfl #[.agg #[.slice A0_0 l0_0.length c0_0, .int .i64 a0_1, .int .i64 a0_2, .int .i64 a0_3, .int .i64 a0_4, .int .i64 a0_5, .int .i64 a0_6, .int .i64 a0_7]] rfl (by (try simp only [List.map_toArray, List.map_cons, List.map_nil]); first | done | rfl | (simp only [List.length_drop, List.length_take]; rfl)) ?_; (with_reducible refine (quilllaw10_Heavy.calls k _ _ l0_0 a0_1 a0_2 a0_3 a0_4 a0_5 a0_6 a0_7 false _ ?side1 ?side2 A2.out).mono ?_); (case side1 => repeat (first | exact (Kd.C_below HR0_0.out HB.out) | (with_reducible refine Kd.C_alloc ?_ _) | (with_reducible refine Kd.C_drewN ?_ _) | (with_reducible refine Kd.C_drew ?_))); (case side2 => exact HC0_0.out); rintro e w9 ⟨rfl, hb⟩; refine ⟨_, rfl, ?_⟩; have n0_ := Aside0.mk (blk_below (g := gb129) (o := .cells #[.slice A0_0 l0_0.length c0_0, .int .i64 a0_1, .int .i64 a0_2, .int .i64 a0_3, .int .i64 a0_4, .int .i64 a0_5, .int .i64 a0_6, .int .i64 a0_7] 50 (0, 0)) (by (with_reducible repeat (first | refine blk_drewN ?_ _ | refine blk_drew ?_ | refine blk_alloc ?_ _)); exact BK129.out) hb); have n1_ := Aside0.mk (below_step (by repeat (first | (with_reducible first | exact HB.out | apply below_alloc | apply pw_below_drewN | apply below_drew1 | refine below_set ?_ GE129.out) | exact HB.out)) hb); clear BK129; clear HB; have BK129 := n0_; have HB := n1_; clear n0_ n1_; (try clear hb); (try clear hb2); (try clear hk); (try clear hi)))
    go_loopg [3] k (fun kq v3 w' => ∃ (x3_1 : Int), v3 = .int .i64 x3_1 ∧ Aside0 (quilllaw13_ParasMove.l0 kq x3_1 l0_0 a0_1 a0_2 a0_3 a0_4 a0_5 a0_6 a0_7 = some r) ∧ Aside0 (kq ≤ k) ∧ Aside0 (w'.heap[gb129]? = some (.cells #[(.slice A0_0 l0_0.length c0_0), .int .i64 a0_1, .int .i64 a0_2, .int .i64 a0_3, .int .i64 a0_4, .int .i64 a0_5, .int .i64 a0_6, .int .i64 a0_7] 50 (0, 0))) ∧ Aside0 (Below w.heap.size w w'))
    case atStart => exact ⟨(0), (by first | rfl | (simp; done) | (simp [*]; done)), H', ⟨Nat.le_refl _⟩, ⟨by (with_reducible repeat (first | refine blk_drewN ?_ _ | refine blk_drew ?_ | refine blk_alloc ?_ _)); exact BK129.out⟩, ⟨by repeat (first | (with_reducible first | exact HB.out | apply below_alloc | apply pw_below_drewN | apply below_drew1 | refine below_set ?_ GE129.out) | exact HB.out)⟩⟩
    case round =>
      clear H'
      try clear c2
      try clear p2
      try clear c3
      try clear c7
      try clear hcz5_0
      try clear hcz5_1
      try clear hcz5_2
      try clear hcz5_3
      try clear hcz5_4
      try clear hcz5_5
      try clear hcz5_6
      try clear hcz5_7
      try clear hcz8_0
      try clear hcz8_1
      try clear hcz8_2
      try clear hcz8_3
      try clear hcz8_4
      try clear hcz8_5
      try clear hcz8_6
      try clear hcz8_7
      try clear hfz5_0
      try clear hfz5_1
      try clear hfz5_2
      try clear hfz5_3
      try clear hfz5_4
      try clear hfz5_5
      try clear hfz5_6
      try clear hfz5_7
      try clear hfz8_0
      try clear hfz8_1
      try clear hfz8_2
      try clear hfz8_3
      try clear hfz8_4
      try clear hfz8_5
      try clear hfz8_6
      try clear hfz8_7
      obtain ⟨x3_1, rfl, HA, HK1, BK129, HB⟩ := hrel
      cases gk with
      | zero => exact absurd HA.out (by simp [quilllaw13_ParasMove.l0])
      | succ k1 =>
        have H := HA.out
        clear HA
        simp only [quilllaw13_ParasMove.l0] at H
        have HC10 := Aside0.mk H
        clear H
        go_upto_region 4 with (fail)
        go_cut [26] (fun v26 wc => ∃ (kq : Nat) (x26_9 : Bool), v26 = .bool x26_9 ∧ Aside0 (quilllaw13_ParasMove.j1 kq x3_1 x26_9 l0_0 a0_1 a0_2 a0_3 a0_4 a0_5 a0_6 a0_7 = some r) ∧ Aside0 (kq ≤ k1) ∧ Aside0 (wc.heap[gb129]? = some (.cells #[(.slice A0_0 l0_0.length c0_0), .int .i64 a0_1, .int .i64 a0_2, .int .i64 a0_3, .int .i64 a0_4, .int .i64 a0_5, .int .i64 a0_6, .int .i64 a0_7] 50 (0, 0))) ∧ Aside0 (Below w.heap.size w wc))
        case first =>
          have H := HC10.out
          clear HC10
          by_cases c11 : x3_1 < (l0_0.length : Int)
          · rw [if_pos c11] at H
            have c11b0 : decide (x3_1 < (l0_0.length : Int)) = true := decide_eq_true c11
            clear c11
            (first | rw [c11b0] | (simp only [i64_w, i32_w]; rw [c11b0]) | skip)
            have H' := Aside0.mk H
            clear H
            have hcz12_0 : wr.cell? ⟨gb129, 0, none⟩ = some (.slice A0_0 l0_0.length c0_0) := (blk_cell BK129.out 0).trans rfl
            have hcz12_1 : wr.cell? ⟨gb129, 1, none⟩ = some (.int .i64 a0_1) := (blk_cell BK129.out 1).trans rfl
            have hcz12_2 : wr.cell? ⟨gb129, 2, none⟩ = some (.int .i64 a0_2) := (blk_cell BK129.out 2).trans rfl
            have hcz12_3 : wr.cell? ⟨gb129, 3, none⟩ = some (.int .i64 a0_3) := (blk_cell BK129.out 3).trans rfl
            have hcz12_4 : wr.cell? ⟨gb129, 4, none⟩ = some (.int .i64 a0_4) := (blk_cell BK129.out 4).trans rfl
            have hcz12_5 : wr.cell? ⟨gb129, 5, none⟩ = some (.int .i64 a0_5) := (blk_cell BK129.out 5).trans rfl
            have hcz12_6 : wr.cell? ⟨gb129, 6, none⟩ = some (.int .i64 a0_6) := (blk_cell BK129.out 6).trans rfl
            have hcz12_7 : wr.cell? ⟨gb129, 7, none⟩ = some (.int .i64 a0_7) := (blk_cell BK129.out 7).trans rfl
            have hfz12_0 := blk_frozen BK129.out 0
            have hfz12_1 := blk_frozen BK129.out 1
            have hfz12_2 := blk_frozen BK129.out 2
            have hfz12_3 := blk_frozen BK129.out 3
            have hfz12_4 := blk_frozen BK129.out 4
            have hfz12_5 := blk_frozen BK129.out 5
            have hfz12_6 := blk_frozen BK129.out 6
            have hfz12_7 := blk_frozen BK129.out 7
            go_wp2
            go_meet
            case rel => exact ⟨_, (decide (x3_1 < 5)), (by first | rfl | (simp; done) | (simp [*]; done)), H', ⟨by have := HK1.out; first | omega | exact Nat.le_refl _⟩, ⟨by (with_reducible repeat (first | refine blk_drewN ?_ _ | refine blk_drew ?_ | refine blk_alloc ?_ _)); exact BK129.out⟩, ⟨by repeat (first | (with_reducible first | exact HB.out | apply below_alloc | apply pw_below_drewN | apply below_drew1 | refine below_set ?_ GE129.out) | exact HB.out)⟩⟩
          · rw [if_neg c11] at H
            have c11b0 : decide (x3_1 < (l0_0.length : Int)) = false := decide_eq_false c11
            clear c11
            (first | rw [c11b0] | (simp only [i64_w, i32_w]; rw [c11b0]) | skip)
            have H' := Aside0.mk H
            clear H
            have hcz13_0 : wr.cell? ⟨gb129, 0, none⟩ = some (.slice A0_0 l0_0.length c0_0) := (blk_cell BK129.out 0).trans rfl
            have hcz13_1 : wr.cell? ⟨gb129, 1, none⟩ = some (.int .i64 a0_1) := (blk_cell BK129.out 1).trans rfl
            have hcz13_2 : wr.cell? ⟨gb129, 2, none⟩ = some (.int .i64 a0_2) := (blk_cell BK129.out 2).trans rfl
            have hcz13_3 : wr.cell? ⟨gb129, 3, none⟩ = some (.int .i64 a0_3) := (blk_cell BK129.out 3).trans rfl
            have hcz13_4 : wr.cell? ⟨gb129, 4, none⟩ = some (.int .i64 a0_4) := (blk_cell BK129.out 4).trans rfl
            have hcz13_5 : wr.cell? ⟨gb129, 5, none⟩ = some (.int .i64 a0_5) := (blk_cell BK129.out 5).trans rfl
            have hcz13_6 : wr.cell? ⟨gb129, 6, none⟩ = some (.int .i64 a0_6) := (blk_cell BK129.out 6).trans rfl
            have hcz13_7 : wr.cell? ⟨gb129, 7, none⟩ = some (.int .i64 a0_7) := (blk_cell BK129.out 7).trans rfl
            have hfz13_0 := blk_frozen BK129.out 0
            have hfz13_1 := blk_frozen BK129.out 1
            have hfz13_2 := blk_frozen BK129.out 2
            have hfz13_3 := blk_frozen BK129.out 3
            have hfz13_4 := blk_frozen BK129.out 4
            have hfz13_5 := blk_frozen BK129.out 5
            have hfz13_6 := blk_frozen BK129.out 6
            have hfz13_7 := blk_frozen BK129.out 7
            go_wp2
            go_meet
            case rel => exact ⟨_, (false), (by first | rfl | (simp; done) | (simp [*]; done)), H', ⟨by have := HK1.out; first | omega | exact Nat.le_refl _⟩, ⟨by (with_reducible repeat (first | refine blk_drewN ?_ _ | refine blk_drew ?_ | refine blk_alloc ?_ _)); exact BK129.out⟩, ⟨by repeat (first | (with_reducible first | exact HB.out | apply below_alloc | apply pw_below_drewN | apply below_drew1 | refine below_set ?_ GE129.out) | exact HB.out)⟩⟩
        case rest =>
          clear HC10
          try clear c1
          try clear c2
          try clear p2
          try clear c3
          try clear c7
          try clear c11
          try clear c11b0
          try clear hcz12_0
          try clear hcz12_1
          try clear hcz12_2
          try clear hcz12_3
          try clear hcz12_4
          try clear hcz12_5
          try clear hcz12_6
          try clear hcz12_7
          try clear hcz13_0
          try clear hcz13_1
          try clear hcz13_2
          try clear hcz13_3
          try clear hcz13_4
          try clear hcz13_5
          try clear hcz13_6
          try clear hcz13_7
          try clear hcz5_0
          try clear hcz5_1
          try clear hcz5_2
          try clear hcz5_3
          try clear hcz5_4
          try clear hcz5_5
          try clear hcz5_6
          try clear hcz5_7
          try clear hcz8_0
          try clear hcz8_1
          try clear hcz8_2
          try clear hcz8_3
          try clear hcz8_4
          try clear hcz8_5
          try clear hcz8_6
          try clear hcz8_7
          try clear hfz12_0
          try clear hfz12_1
          try clear hfz12_2
          try clear hfz12_3
          try clear hfz12_4
          try clear hfz12_5
          try clear hfz12_6
          try clear hfz12_7
          try clear hfz13_0
          try clear hfz13_1
          try clear hfz13_2
          try clear hfz13_3
          try clear hfz13_4
          try clear hfz13_5
          try clear hfz13_6
          try clear hfz13_7
          try clear hfz5_0
          try clear hfz5_1
          try clear hfz5_2
          try clear hfz5_3
          try clear hfz5_4
          try clear hfz5_5
          try clear hfz5_6
          try clear hfz5_7
          try clear hfz8_0
          try clear hfz8_1
          try clear hfz8_2
          try clear hfz8_3
          try clear hfz8_4
          try clear hfz8_5
          try clear hfz8_6
          try clear hfz8_7
          try clear p2
          obtain ⟨kq, x26_9, rfl, HA, HJ9, BK129, HB⟩ := hcut
          cases kq with
          | zero => exact absurd HA.out (by simp [quilllaw13_ParasMove.j1])
          | succ kj9 =>
            have H := HA.out
            clear HA
            simp only [quilllaw13_ParasMove.j1] at H
            by_cases c14 : x26_9 = true
            · subst c14
              have H1 : (if 0 ≤ x3_1 then (if x3_1 < (l0_0.length : Int) then ((cv_9_52.f (rdOf ByteArray.empty l0_0 x3_1)).bind fun t133 => ((quilllaw10_Offsets.f kj9 l0_0 a0_1 a0_2 a0_3 a0_4 a0_5 a0_6 a0_7 t133).bind fun t136 => (quilllaw13_ParasMove.l1 kj9 x3_1 t133 t136 (([123, 125, a0_5] : List Int)) 0 l0_0 a0_1 a0_2 a0_3 a0_4 a0_5 a0_6 a0_7))) else (none)) else (none)) = some r := by rw [if_pos rfl] at H; exact H
              clear H
              have H := H1
              clear H1
              by_cases c15 : 0 ≤ x3_1
              · rw [if_pos c15] at H
                have c15b0 : decide (0 ≤ x3_1) = true := decide_eq_true c15
                clear c15
                by_cases c16 : x3_1 < (l0_0.length : Int)
                · rw [if_pos c16] at H
                  have c16b0 : decide (x3_1 < (l0_0.length : Int)) = true := decide_eq_true c16
                  clear c16
                  replace H := Option.bind_eq_some_iff.mp H
                  obtain ⟨t133, A170, H⟩ := H
                  replace H : ((quilllaw10_Offsets.f kj9 l0_0 a0_1 a0_2 a0_3 a0_4 a0_5 a0_6 a0_7 t133).bind fun t136 => (quilllaw13_ParasMove.l1 kj9 x3_1 t133 t136 (([123, 125, a0_5] : List Int)) 0 l0_0 a0_1 a0_2 a0_3 a0_4 a0_5 a0_6 a0_7)) = some r := H
                  have A17 := Aside0.mk A170
                  clear A170
                  replace H := Option.bind_eq_some_iff.mp H
                  obtain ⟨t136, A180, H⟩ := H
                  replace H : (quilllaw13_ParasMove.l1 kj9 x3_1 t133 t136 (([123, 125, a0_5] : List Int)) 0 l0_0 a0_1 a0_2 a0_3 a0_4 a0_5 a0_6 a0_7) = some r := H
                  have A18 := Aside0.mk A180
                  clear A180
                  obtain ⟨y139, hy139⟩ : ∃ y_ : List Int, y_ = (([123, 125, a0_5] : List Int)) := ⟨_, rfl⟩
                  replace H : (quilllaw13_ParasMove.l1 kj9 x3_1 t133 t136 y139 0 l0_0 a0_1 a0_2 a0_3 a0_4 a0_5 a0_6 a0_7) = some r := by first | (rw [hy139]; with_reducible exact H) | (have H2_ := (Option.bind_some _ _).symm.trans H; rw [hy139]; with_reducible exact H2_) | (have H2_ := (Option.bind_some _ _).symm.trans H; with_reducible exact H2_) | with_reducible exact H | (rw [hy139]; exact H) | exact H
                  have Ny139 := Aside0.mk hy139
                  clear hy139
                  have H' := Aside0.mk H
                  clear H
                  have hcz19_0 : wc.cell? ⟨gb129, 0, none⟩ = some (.slice A0_0 l0_0.length c0_0) := (blk_cell BK129.out 0).trans rfl
                  have hcz19_1 : wc.cell? ⟨gb129, 1, none⟩ = some (.int .i64 a0_1) := (blk_cell BK129.out 1).trans rfl
                  have hcz19_2 : wc.cell? ⟨gb129, 2, none⟩ = some (.int .i64 a0_2) := (blk_cell BK129.out 2).trans rfl
                  have hcz19_3 : wc.cell? ⟨gb129, 3, none⟩ = some (.int .i64 a0_3) := (blk_cell BK129.out 3).trans rfl
                  have hcz19_4 : wc.cell? ⟨gb129, 4, none⟩ = some (.int .i64 a0_4) := (blk_cell BK129.out 4).trans rfl
                  have hcz19_5 : wc.cell? ⟨gb129, 5, none⟩ = some (.int .i64 a0_5) := (blk_cell BK129.out 5).trans rfl
                  have hcz19_6 : wc.cell? ⟨gb129, 6, none⟩ = some (.int .i64 a0_6) := (blk_cell BK129.out 6).trans rfl
                  have hcz19_7 : wc.cell? ⟨gb129, 7, none⟩ = some (.int .i64 a0_7) := (blk_cell BK129.out 7).trans rfl
                  have hfz19_0 := blk_frozen BK129.out 0
                  have hfz19_1 := blk_frozen BK129.out 1
                  have hfz19_2 := blk_frozen BK129.out 2
                  have hfz19_3 := blk_frozen BK129.out 3
                  have hfz19_4 := blk_frozen BK129.out 4
                  have hfz19_5 := blk_frozen BK129.out 5
                  have hfz19_6 := blk_frozen BK129.out 6
                  have hfz19_7 := blk_frozen BK129.out 7
                  have p132 : 0 ≤ (x3_1 : Int) := of_decide_eq_true (by first | (with_reducible assumption) | assumption)
                  have q132 : x3_1 < (l0_0.length : Int) := of_decide_eq_true (by first | (with_reducible assumption) | assumption)
                  obtain ⟨ad132, e132, hx132_0⟩ := Kd.at_string HR0_0.out x3_1 p132 q132
                  cases e132
                  replace hx132_0 := (HB.out.cell (World.block_lt_of_cell? w _ hx132_0)).trans hx132_0
                  replace p132 := eq_true p132
                  replace q132 := eq_true q132
                  go_wp2_with (first | ((with_reducible refine gate_dst (N := 35) rfl ?_); (try (refine gate_guard (by rfl) ?_; dsimp only)); refine conv_ (some 35) rfl rfl (.string (rdOf ByteArray.empty l0_0 x3_1)) rfl (by first | rfl | (simp; done)) ?_; (with_reducible refine (cv_9_52.calls (rdOf ByteArray.empty l0_0 x3_1) t133 _ A17.out).mono ?_); rintro e w20 ⟨v134, rfl, ho0, hb⟩; refine ⟨_, rfl, ?_⟩; have n0_ := Aside0.mk (Kd.R_lower ho0 (below_size (by repeat (first | (with_reducible first | exact HB.out | apply below_alloc | apply pw_below_drewN | apply below_drew1 | refine below_set ?_ GE129.out) | exact HB.out)))); have n1_ := Aside0.mk (blk_below (g := gb129) (o := .cells #[.slice (some ad132) l0_0.length c0_0, .int .i64 a0_1, .int .i64 a0_2, .int .i64 a0_3, .int .i64 a0_4, .int .i64 a0_5, .int .i64 a0_6, .int .i64 a0_7] 50 (0, 0)) (by (with_reducible repeat (first | refine blk_drewN ?_ _ | refine blk_drew ?_ | refine blk_alloc ?_ _)); exact BK129.out) hb); have n2_ := Aside0.mk (below_step (by repeat (first | (with_reducible first | exact HB.out | apply below_alloc | apply pw_below_drewN | apply below_drew1 | refine below_set ?_ GE129.out) | exact HB.out)) hb); clear BK129; clear HB; have HO135 := n0_; have BK129 := n1_; have HB := n2_; clear n0_ n1_ n2_; (try clear hb); (try clear hb2); (try clear hk); (try clear hi); (try clear ho0); have hcz21_0 : w20.cell? ⟨gb129, 0, none⟩ = some (.slice (some ad132) l0_0.length c0_0) := (blk_cell BK129.out 0).trans rfl; have hcz21_1 : w20.cell? ⟨gb129, 1, none⟩ = some (.int .i64 a0_1) := (blk_cell BK129.out 1).trans rfl; have hcz21_2 : w20.cell? ⟨gb129, 2, none⟩ = some (.int .i64 a0_2) := (blk_cell BK129.out 2).trans rfl; have hcz21_3 : w20.cell? ⟨gb129, 3, none⟩ = some (.int .i64 a0_3) := (blk_cell BK129.out 3).trans rfl; have hcz21_4 : w20.cell? ⟨gb129, 4, none⟩ = some (.int .i64 a0_4) := (blk_cell BK129.out 4).trans rfl; have hcz21_5 : w20.cell? ⟨gb129, 5, none⟩ = some (.int .i64 a0_5) := (blk_cell BK129.out 5).trans rfl; have hcz21_6 : w20.cell? ⟨gb129, 6, none⟩ = some (.int .i64 a0_6) := (blk_cell BK129.out 6).trans rfl; have hcz21_7 : w20.cell? ⟨gb129, 7, none⟩ = some (.int .i64 a0_7) := (blk_cell BK129.out 7).trans rfl; have hfz21_0 := blk_frozen BK129.out 0; have hfz21_1 := blk_frozen BK129.out 1; have hfz21_2 := blk_frozen BK129.out 2; have hfz21_3 := blk_frozen BK129.out 3; have hfz21_4 := blk_frozen BK129.out 4; have hfz21_5 := blk_frozen BK129.out 5; have hfz21_6 := blk_frozen BK129.out 6; have hfz21_7 := blk_frozen BK129.out 7; obtain ⟨Ao22, co22, eo22⟩ := Kd.R_slice HO135.out; subst eo22) | ((with_reducible refine gate_callee (f := 30) rfl ?_); refine goesL_ (some 38) rfl rfl Tryd.func30 (by kernel_rfl) rfl #[.agg #[.slice (some ad132) l0_0.length c0_0, .int .i64 a0_1, .int .i64 a0_2, .int .i64 a0_3, .int .i64 a0_4, .int .i64 a0_5, .int .i64 a0_6, .int .i64 a0_7], .slice Ao22 t133.length co22] rfl (by (try simp only [List.map_toArray, List.map_cons, List.map_nil]); first | done | rfl | (simp only [List.length_drop, List.length_take]; rfl)) ?_; (with_reducible refine (quilllaw10_Offsets.calls kj9 _ _ l0_0 a0_1 a0_2 a0_3 a0_4 a0_5 a0_6 a0_7 _ _ t133 t136 _ ?side1 ?side2 ?side3 ?side4 A18.out).mono ?_); (case side1 => repeat (first | exact (Kd.C_below HR0_0.out HB.out) | (with_reducible refine Kd.C_alloc ?_ _) | (with_reducible refine Kd.C_drewN ?_ _) | (with_reducible refine Kd.C_drew ?_))); (case side2 => exact HC0_0.out); (case side3 => repeat (first | exact (Kd.R_reads' HO135.out).2.2 | (with_reducible refine Kd.C_alloc ?_ _) | (with_reducible refine Kd.C_drewN ?_ _) | (with_reducible refine Kd.C_drew ?_))); (case side4 => exact (Kd.R_reads' HO135.out).2.1); rintro e w23 ⟨v137, rfl, ho0, hb⟩; refine ⟨_, rfl, ?_⟩; have n0_ := Aside0.mk (Kd.R_below (by (with_reducible repeat (first | apply Kd.R_alloc | apply Kd.R_drewN | apply Kd.R_drew)); exact HO135.out) hb); have n1_ := Aside0.mk (Kd.R_lower ho0 (below_size (by repeat (first | (with_reducible first | exact HB.out | apply below_alloc | apply pw_below_drewN | apply below_drew1 | refine below_set ?_ GE129.out) | exact HB.out)))); have n2_ := Aside0.mk (blk_below (g := gb129) (o := .cells #[.slice (some ad132) l0_0.length c0_0, .int .i64 a0_1, .int .i64 a0_2, .int .i64 a0_3, .int .i64 a0_4, .int .i64 a0_5, .int .i64 a0_6, .int .i64 a0_7] 50 (0, 0)) (by (with_reducible repeat (first | refine blk_drewN ?_ _ | refine blk_drew ?_ | refine blk_alloc ?_ _)); exact BK129.out) hb); have n3_ := Aside0.mk (below_step (by repeat (first | (with_reducible first | exact HB.out | apply below_alloc | apply pw_below_drewN | apply below_drew1 | refine below_set ?_ GE129.out) | exact HB.out)) hb); clear HO135; clear BK129; clear HB; have HO135 := n0_; have HO138 := n1_; have BK129 := n2_; have HB := n3_; clear n0_ n1_ n2_ n3_; (try clear hb); (try clear hb2); (try clear hk); (try clear hi); (try clear ho0); have hcz24_0 : w23.cell? ⟨gb129, 0, none⟩ = some (.slice (some ad132) l0_0.length c0_0) := (blk_cell BK129.out 0).trans rfl; have hcz24_1 : w23.cell? ⟨gb129, 1, none⟩ = some (.int .i64 a0_1) := (blk_cell BK129.out 1).trans rfl; have hcz24_2 : w23.cell? ⟨gb129, 2, none⟩ = some (.int .i64 a0_2) := (blk_cell BK129.out 2).trans rfl; have hcz24_3 : w23.cell? ⟨gb129, 3, none⟩ = some (.int .i64 a0_3) := (blk_cell BK129.out 3).trans rfl; have hcz24_4 : w23.cell? ⟨gb129, 4, none⟩ = some (.int .i64 a0_4) := (blk_cell BK129.out 4).trans rfl; have hcz24_5 : w23.cell? ⟨gb129, 5, none⟩ = some (.int .i64 a0_5) := (blk_cell BK129.out 5).trans rfl; have hcz24_6 : w23.cell? ⟨gb129, 6, none⟩ = some (.int .i64 a0_6) := (blk_cell BK129.out 6).trans rfl; have hcz24_7 : w23.cell? ⟨gb129, 7, none⟩ = some (.int .i64 a0_7) := (blk_cell BK129.out 7).trans rfl; have hfz24_0 := blk_frozen BK129.out 0; have hfz24_1 := blk_frozen BK129.out 1; have hfz24_2 := blk_frozen BK129.out 2; have hfz24_3 := blk_frozen BK129.out 3; have hfz24_4 := blk_frozen BK129.out 4; have hfz24_5 := blk_frozen BK129.out 5; have hfz24_6 := blk_frozen BK129.out 6; have hfz24_7 := blk_frozen BK129.out 7) | ((with_reducible refine gate_dst (N := 41) rfl ?_); (try (refine gate_guard (by rfl) ?_; dsimp only)); refine Kd.R_lit (Kd.int .i64) _ 3 ?hg (N := 41) ?hd (xs := ([123, 125, a0_5] : List Int)) (inner := [.int .i64 123, .int .i64 125, .int .i64 a0_5]) (ok := fun _ => True) (okp := fun _ => True) ?hr ?hp (fun _ hk => hk) trivial (Below.refl _ _) (Nat.le_refl _) (by simp) ?_; (case hd => rfl); (case hg => rfl); (case hr => first | (go_simp; done) | (go_simp; rfl)); (case hp => exact (Reps.one (show Kd.M (Kd.int .i64) _ _ _ 123 [.int .i64 123] from rfl) (Reps.one (show Kd.M (Kd.int .i64) _ _ _ 125 [.int .i64 125] from rfl) (Reps.one (show Kd.M (Kd.int .i64) _ _ _ a0_5 [.int .i64 a0_5] from rfl) (Reps.none _ _))))); intro v140 w25 ho26 hb hg_ hnew_; clear hg_ hnew_; (first | rw [← Ny139.out] at ho26 | (simp only [Int.reduceToNat] at ho26; rw [← Ny139.out] at ho26)); have n0_ := Aside0.mk (Kd.R_below (by (with_reducible repeat (first | apply Kd.R_alloc | apply Kd.R_drewN | apply Kd.R_drew)); exact HO135.out) hb); have n1_ := Aside0.mk (Kd.R_elder' (by (with_reducible repeat (first | apply Kd.R_alloc | apply Kd.R_drewN | apply Kd.R_drew)); exact HO138.out) (Kd.R_base ho26) hb); have n2_ := Aside0.mk (Kd.R_lower (Kd.R_new' ho26 (Kd.R_lt (by (with_reducible repeat (first | apply Kd.R_alloc | apply Kd.R_drewN | apply Kd.R_drew)); exact HO138.out))) (below_size (by repeat (first | (with_reducible first | exact HB.out | apply below_alloc | apply pw_below_drewN | apply below_drew1 | refine below_set ?_ GE129.out) | exact HB.out)))); have n3_ := Aside0.mk (blk_below (g := gb129) (o := .cells #[.slice (some ad132) l0_0.length c0_0, .int .i64 a0_1, .int .i64 a0_2, .int .i64 a0_3, .int .i64 a0_4, .int .i64 a0_5, .int .i64 a0_6, .int .i64 a0_7] 50 (0, 0)) (by (with_reducible repeat (first | refine blk_drewN ?_ _ | refine blk_drew ?_ | refine blk_alloc ?_ _)); exact BK129.out) hb); have n4_ := Aside0.mk (below_step (by repeat (first | (with_reducible first | exact HB.out | apply below_alloc | apply pw_below_drewN | apply below_drew1 | refine below_set ?_ GE129.out) | exact HB.out)) hb); clear HO135; clear HO138; clear BK129; clear HB; have HO135 := n0_; have HO138 := n1_; have HO141 := n2_; have BK129 := n3_; have HB := n4_; clear n0_ n1_ n2_ n3_ n4_; clear hb ho26))
                  go_loopg [7] kj9 (fun kq v7 w' => ∃ (x7_3 : Int), v7 = .int .i64 x7_3 ∧ Aside0 (quilllaw13_ParasMove.l1 kq x3_1 t133 t136 y139 x7_3 l0_0 a0_1 a0_2 a0_3 a0_4 a0_5 a0_6 a0_7 = some r) ∧ Aside0 (kq ≤ kj9) ∧ Aside0 (Kd.R (Kd.int .i32) 21 w' w.heap.size (fun _ => True) (.slice Ao22 t133.length co22) t133) ∧ Aside0 (Kd.R (Kd.int .i64) 3 w' w.heap.size (fun k_ => some k_ ≠ (v140 : Value).ownBlock) v137 t136) ∧ Aside0 (Kd.R (Kd.int .i64) 3 w' w.heap.size (fun k_ => some k_ ≠ (v137 : Value).ownBlock) v140 y139) ∧ Aside0 (w'.heap[gb129]? = some (.cells #[(.slice (some ad132) l0_0.length c0_0), .int .i64 a0_1, .int .i64 a0_2, .int .i64 a0_3, .int .i64 a0_4, .int .i64 a0_5, .int .i64 a0_6, .int .i64 a0_7] 50 (0, 0))) ∧ Aside0 (Below w.heap.size w w'))
                  case atStart => exact ⟨(0), (by first | rfl | (simp; done) | (simp [*]; done)), H', ⟨Nat.le_refl _⟩, ⟨by (with_reducible repeat (first | apply Kd.R_alloc | apply Kd.R_drewN | apply Kd.R_drew)); exact HO135.out⟩, ⟨by (with_reducible repeat (first | apply Kd.R_alloc | apply Kd.R_drewN | apply Kd.R_drew)); exact Kd.R_mono HO138.out (fun _ hk => hk.2)⟩, ⟨by (with_reducible repeat (first | apply Kd.R_alloc | apply Kd.R_drewN | apply Kd.R_drew)); exact Kd.R_mono HO141.out (fun _ hk => hk.2)⟩, ⟨by (with_reducible repeat (first | refine blk_drewN ?_ _ | refine blk_drew ?_ | refine blk_alloc ?_ _)); exact BK129.out⟩, ⟨by repeat (first | (with_reducible first | exact HB.out | apply below_alloc | apply pw_below_drewN | apply below_drew1 | refine below_set ?_ GE129.out) | exact HB.out)⟩⟩
                  case round =>
                    clear H'
                    try clear c1
                    try clear p1
                    try clear q1
                    try clear hx1
                    try clear c2
                    try clear p2
                    try clear c3
                    try clear c7
                    try clear c11
                    try clear c11b0
                    try clear p13
                    try clear q13
                    try clear hx13
                    try clear c14
                    try clear c15
                    try clear c15b0
                    try clear c16
                    try clear c16b0
                    try clear c25
                    try clear hcz12_0
                    try clear hcz12_1
                    try clear hcz12_2
                    try clear hcz12_3
                    try clear hcz12_4
                    try clear hcz12_5
                    try clear hcz12_6
                    try clear hcz12_7
                    try clear hcz13_0
                    try clear hcz13_1
                    try clear hcz13_2
                    try clear hcz13_3
                    try clear hcz13_4
                    try clear hcz13_5
                    try clear hcz13_6
                    try clear hcz13_7
                    try clear hcz19_0
                    try clear hcz19_1
                    try clear hcz19_2
                    try clear hcz19_3
                    try clear hcz19_4
                    try clear hcz19_5
                    try clear hcz19_6
                    try clear hcz19_7
                    try clear hcz21_0
                    try clear hcz21_1
                    try clear hcz21_2
                    try clear hcz21_3
                    try clear hcz21_4
                    try clear hcz21_5
                    try clear hcz21_6
                    try clear hcz21_7
                    try clear hcz24_0
                    try clear hcz24_1
                    try clear hcz24_2
                    try clear hcz24_3
                    try clear hcz24_4
                    try clear hcz24_5
                    try clear hcz24_6
                    try clear hcz24_7
                    try clear hcz5_0
                    try clear hcz5_1
                    try clear hcz5_2
                    try clear hcz5_3
                    try clear hcz5_4
                    try clear hcz5_5
                    try clear hcz5_6
                    try clear hcz5_7
                    try clear hcz8_0
                    try clear hcz8_1
                    try clear hcz8_2
                    try clear hcz8_3
                    try clear hcz8_4
                    try clear hcz8_5
                    try clear hcz8_6
                    try clear hcz8_7
                    try clear hfz12_0
                    try clear hfz12_1
                    try clear hfz12_2
                    try clear hfz12_3
                    try clear hfz12_4
                    try clear hfz12_5
                    try clear hfz12_6
                    try clear hfz12_7
                    try clear hfz13_0
                    try clear hfz13_1
                    try clear hfz13_2
                    try clear hfz13_3
                    try clear hfz13_4
                    try clear hfz13_5
                    try clear hfz13_6
                    try clear hfz13_7
                    try clear hfz19_0
                    try clear hfz19_1
                    try clear hfz19_2
                    try clear hfz19_3
                    try clear hfz19_4
                    try clear hfz19_5
                    try clear hfz19_6
                    try clear hfz19_7
                    try clear hfz21_0
                    try clear hfz21_1
                    try clear hfz21_2
                    try clear hfz21_3
                    try clear hfz21_4
                    try clear hfz21_5
                    try clear hfz21_6
                    try clear hfz21_7
                    try clear hfz24_0
                    try clear hfz24_1
                    try clear hfz24_2
                    try clear hfz24_3
                    try clear hfz24_4
                    try clear hfz24_5
                    try clear hfz24_6
                    try clear hfz24_7
                    try clear hfz5_0
                    try clear hfz5_1
                    try clear hfz5_2
                    try clear hfz5_3
                    try clear hfz5_4
                    try clear hfz5_5
                    try clear hfz5_6
                    try clear hfz5_7
                    try clear hfz8_0
                    try clear hfz8_1
                    try clear hfz8_2
                    try clear hfz8_3
                    try clear hfz8_4
                    try clear hfz8_5
                    try clear hfz8_6
                    try clear hfz8_7
                    try clear hx132_0
                    try clear p132
                    try clear p2
                    try clear q132
                    obtain ⟨x7_3, rfl, HA, HK3, HO_4, HO_5, HO_6, BK129, HB⟩ := hrel
                    cases gk with
                    | zero => exact absurd HA.out (by simp [quilllaw13_ParasMove.l1])
                    | succ k3 =>
                      have H := HA.out
                      clear HA
                      simp only [quilllaw13_ParasMove.l1] at H
                      by_cases c27 : x7_3 < (y139.length : Int)
                      · rw [if_pos c27] at H
                        have c27b0 : decide (x7_3 < (y139.length : Int)) = true := decide_eq_true c27
                        clear c27
                        have H' := Aside0.mk H
                        clear H
                        obtain ⟨Ao28, co28, eo28⟩ := Kd.R_slice HO_6.out
                        subst eo28
                        go_wp2
                        go_loopg [8] k3 (fun kq v8 w' => ∃ (x8_4 : Int), v8 = .int .i64 x8_4 ∧ Aside0 (quilllaw13_ParasMove.l2 kq x3_1 t133 t136 y139 x7_3 x8_4 l0_0 a0_1 a0_2 a0_3 a0_4 a0_5 a0_6 a0_7 = some r) ∧ Aside0 (kq ≤ k3) ∧ Aside0 (Kd.R (Kd.int .i32) 21 w' w.heap.size (fun _ => True) (.slice Ao22 t133.length co22) t133) ∧ Aside0 (Kd.R (Kd.int .i64) 3 w' w.heap.size (fun k_ => some k_ ≠ ((.slice Ao28 y139.length co28) : Value).ownBlock) v137 t136) ∧ Aside0 (Kd.R (Kd.int .i64) 3 w' w.heap.size (fun k_ => some k_ ≠ (v137 : Value).ownBlock) (.slice Ao28 y139.length co28) y139) ∧ Aside0 (w'.heap[gb129]? = some (.cells #[(.slice (some ad132) l0_0.length c0_0), .int .i64 a0_1, .int .i64 a0_2, .int .i64 a0_3, .int .i64 a0_4, .int .i64 a0_5, .int .i64 a0_6, .int .i64 a0_7] 50 (0, 0))) ∧ Aside0 (Below w.heap.size w w'))
                        case atStart => exact ⟨(0), (by first | rfl | (simp; done) | (simp [*]; done)), H', ⟨Nat.le_refl _⟩, ⟨by (with_reducible repeat (first | apply Kd.R_alloc | apply Kd.R_drewN | apply Kd.R_drew)); exact HO_4.out⟩, ⟨by (with_reducible repeat (first | apply Kd.R_alloc | apply Kd.R_drewN | apply Kd.R_drew)); exact HO_5.out⟩, ⟨by (with_reducible repeat (first | apply Kd.R_alloc | apply Kd.R_drewN | apply Kd.R_drew)); exact HO_6.out⟩, ⟨by (with_reducible repeat (first | refine blk_drewN ?_ _ | refine blk_drew ?_ | refine blk_alloc ?_ _)); exact BK129.out⟩, ⟨by repeat (first | (with_reducible first | exact HB.out | apply below_alloc | apply pw_below_drewN | apply below_drew1 | refine below_set ?_ GE129.out) | exact HB.out)⟩⟩
                        case round =>
                          clear H'
                          try clear c1
                          try clear p1
                          try clear q1
                          try clear hx1
                          try clear c2
                          try clear p2
                          try clear c3
                          try clear c7
                          try clear c11
                          try clear c11b0
                          try clear p13
                          try clear q13
                          try clear hx13
                          try clear c14
                          try clear c15
                          try clear c15b0
                          try clear c16
                          try clear c16b0
                          try clear c25
                          try clear c27
                          try clear c27b0
                          try clear hcz12_0
                          try clear hcz12_1
                          try clear hcz12_2
                          try clear hcz12_3
                          try clear hcz12_4
                          try clear hcz12_5
                          try clear hcz12_6
                          try clear hcz12_7
                          try clear hcz13_0
                          try clear hcz13_1
                          try clear hcz13_2
                          try clear hcz13_3
                          try clear hcz13_4
                          try clear hcz13_5
                          try clear hcz13_6
                          try clear hcz13_7
                          try clear hcz19_0
                          try clear hcz19_1
                          try clear hcz19_2
                          try clear hcz19_3
                          try clear hcz19_4
                          try clear hcz19_5
                          try clear hcz19_6
                          try clear hcz19_7
                          try clear hcz21_0
                          try clear hcz21_1
                          try clear hcz21_2
                          try clear hcz21_3
                          try clear hcz21_4
                          try clear hcz21_5
                          try clear hcz21_6
                          try clear hcz21_7
                          try clear hcz24_0
                          try clear hcz24_1
                          try clear hcz24_2
                          try clear hcz24_3
                          try clear hcz24_4
                          try clear hcz24_5
                          try clear hcz24_6
                          try clear hcz24_7
                          try clear hcz5_0
                          try clear hcz5_1
                          try clear hcz5_2
                          try clear hcz5_3
                          try clear hcz5_4
                          try clear hcz5_5
                          try clear hcz5_6
                          try clear hcz5_7
                          try clear hcz8_0
                          try clear hcz8_1
                          try clear hcz8_2
                          try clear hcz8_3
                          try clear hcz8_4
                          try clear hcz8_5
                          try clear hcz8_6
                          try clear hcz8_7
                          try clear hfz12_0
                          try clear hfz12_1
                          try clear hfz12_2
                          try clear hfz12_3
                          try clear hfz12_4
                          try clear hfz12_5
                          try clear hfz12_6
                          try clear hfz12_7
                          try clear hfz13_0
                          try clear hfz13_1
                          try clear hfz13_2
                          try clear hfz13_3
                          try clear hfz13_4
                          try clear hfz13_5
                          try clear hfz13_6
                          try clear hfz13_7
                          try clear hfz19_0
                          try clear hfz19_1
                          try clear hfz19_2
                          try clear hfz19_3
                          try clear hfz19_4
                          try clear hfz19_5
                          try clear hfz19_6
                          try clear hfz19_7
                          try clear hfz21_0
                          try clear hfz21_1
                          try clear hfz21_2
                          try clear hfz21_3
                          try clear hfz21_4
                          try clear hfz21_5
                          try clear hfz21_6
                          try clear hfz21_7
                          try clear hfz24_0
                          try clear hfz24_1
                          try clear hfz24_2
                          try clear hfz24_3
                          try clear hfz24_4
                          try clear hfz24_5
                          try clear hfz24_6
                          try clear hfz24_7
                          try clear hfz5_0
                          try clear hfz5_1
                          try clear hfz5_2
                          try clear hfz5_3
                          try clear hfz5_4
                          try clear hfz5_5
                          try clear hfz5_6
                          try clear hfz5_7
                          try clear hfz8_0
                          try clear hfz8_1
                          try clear hfz8_2
                          try clear hfz8_3
                          try clear hfz8_4
                          try clear hfz8_5
                          try clear hfz8_6
                          try clear hfz8_7
                          try clear hx132_0
                          try clear p1
                          try clear p13
                          try clear p132
                          try clear p2
                          try clear q1
                          try clear q13
                          try clear q132
                          obtain ⟨x8_4, rfl, HA, HK4, HO_4, HO_5, HO_6, BK129, HB⟩ := hrel
                          cases gk with
                          | zero => exact absurd HA.out (by simp [quilllaw13_ParasMove.l2])
                          | succ k4 =>
                            have H := HA.out
                            clear HA
                            simp only [quilllaw13_ParasMove.l2] at H
                            by_cases c29 : x8_4 < (t136.length : Int)
                            · rw [if_pos c29] at H
                              have c29b0 : decide (x8_4 < (t136.length : Int)) = true := decide_eq_true c29
                              clear c29
                              obtain ⟨y142, hy142⟩ : ∃ y_ : List Int, y_ = (([1, wrap64 (1 + (Int.tmod x8_4 3)), a0_6] : List Int)) := ⟨_, rfl⟩
                              replace H : (quilllaw13_ParasMove.l3 k4 x3_1 t133 t136 y139 x7_3 x8_4 y142 0 l0_0 a0_1 a0_2 a0_3 a0_4 a0_5 a0_6 a0_7) = some r := by first | (rw [hy142]; with_reducible exact H) | (have H2_ := (Option.bind_some _ _).symm.trans H; rw [hy142]; with_reducible exact H2_) | (have H2_ := (Option.bind_some _ _).symm.trans H; with_reducible exact H2_) | with_reducible exact H | (rw [hy142]; exact H) | exact H
                              have Ny142 := Aside0.mk hy142
                              clear hy142
                              have H' := Aside0.mk H
                              clear H
                              obtain ⟨Ao30, co30, eo30⟩ := Kd.R_slice HO_5.out
                              subst eo30
                              have hcz31_0 : wr.cell? ⟨gb129, 0, none⟩ = some (.slice (some ad132) l0_0.length c0_0) := (blk_cell BK129.out 0).trans rfl
                              have hcz31_1 : wr.cell? ⟨gb129, 1, none⟩ = some (.int .i64 a0_1) := (blk_cell BK129.out 1).trans rfl
                              have hcz31_2 : wr.cell? ⟨gb129, 2, none⟩ = some (.int .i64 a0_2) := (blk_cell BK129.out 2).trans rfl
                              have hcz31_3 : wr.cell? ⟨gb129, 3, none⟩ = some (.int .i64 a0_3) := (blk_cell BK129.out 3).trans rfl
                              have hcz31_4 : wr.cell? ⟨gb129, 4, none⟩ = some (.int .i64 a0_4) := (blk_cell BK129.out 4).trans rfl
                              have hcz31_5 : wr.cell? ⟨gb129, 5, none⟩ = some (.int .i64 a0_5) := (blk_cell BK129.out 5).trans rfl
                              have hcz31_6 : wr.cell? ⟨gb129, 6, none⟩ = some (.int .i64 a0_6) := (blk_cell BK129.out 6).trans rfl
                              have hcz31_7 : wr.cell? ⟨gb129, 7, none⟩ = some (.int .i64 a0_7) := (blk_cell BK129.out 7).trans rfl
                              have hfz31_0 := blk_frozen BK129.out 0
                              have hfz31_1 := blk_frozen BK129.out 1
                              have hfz31_2 := blk_frozen BK129.out 2
                              have hfz31_3 := blk_frozen BK129.out 3
                              have hfz31_4 := blk_frozen BK129.out 4
                              have hfz31_5 := blk_frozen BK129.out 5
                              have hfz31_6 := blk_frozen BK129.out 6
                              have hfz31_7 := blk_frozen BK129.out 7
                              go_wp2_with (first | ((with_reducible refine gate_dst (N := 59) rfl ?_); (try (refine gate_guard (by rfl) ?_; dsimp only)); refine Kd.R_lit (Kd.int .i64) _ 3 ?hg (N := 59) ?hd (xs := ([1, wrap64 (1 + (Int.tmod x8_4 3)), a0_6] : List Int)) (inner := [.int .i64 1, .int .i64 (wrap64 (1 + (Int.tmod x8_4 3))), .int .i64 a0_6]) (ok := fun _ => True) (okp := fun _ => True) ?hr ?hp (fun _ hk => hk) trivial (Below.refl _ _) (Nat.le_refl _) (by simp) ?_; (case hd => rfl); (case hg => rfl); (case hr => first | (go_simp; done) | (go_simp; rfl)); (case hp => exact (Reps.one (show Kd.M (Kd.int .i64) _ _ _ 1 [.int .i64 1] from rfl) (Reps.one (show Kd.M (Kd.int .i64) _ _ _ (wrap64 (1 + (Int.tmod x8_4 3))) [.int .i64 (wrap64 (1 + (Int.tmod x8_4 3)))] from rfl) (Reps.one (show Kd.M (Kd.int .i64) _ _ _ a0_6 [.int .i64 a0_6] from rfl) (Reps.none _ _))))); intro v143 w32 ho33 hb hg_ hnew_; clear hg_ hnew_; (first | rw [← Ny142.out] at ho33 | (simp only [Int.reduceToNat] at ho33; rw [← Ny142.out] at ho33)); have n0_ := Aside0.mk (Kd.R_below (by (with_reducible repeat (first | apply Kd.R_alloc | apply Kd.R_drewN | apply Kd.R_drew)); exact HO_4.out) hb); have n1_ := Aside0.mk (Kd.R_elder' (by (with_reducible repeat (first | apply Kd.R_alloc | apply Kd.R_drewN | apply Kd.R_drew)); exact HO_5.out) (Kd.R_base ho33) hb); have n2_ := Aside0.mk (Kd.R_elder' (by (with_reducible repeat (first | apply Kd.R_alloc | apply Kd.R_drewN | apply Kd.R_drew)); exact HO_6.out) (Kd.R_base ho33) hb); have n3_ := Aside0.mk (Kd.R_lower (Kd.R_new' (Kd.R_new' ho33 (Kd.R_lt (by (with_reducible repeat (first | apply Kd.R_alloc | apply Kd.R_drewN | apply Kd.R_drew)); exact HO_5.out))) (Kd.R_lt (by (with_reducible repeat (first | apply Kd.R_alloc | apply Kd.R_drewN | apply Kd.R_drew)); exact HO_6.out))) (below_size (by repeat (first | (with_reducible first | exact HB.out | apply below_alloc | apply pw_below_drewN | apply below_drew1 | refine below_set ?_ GE129.out) | exact HB.out)))); have n4_ := Aside0.mk (blk_below (g := gb129) (o := .cells #[.slice (some ad132) l0_0.length c0_0, .int .i64 a0_1, .int .i64 a0_2, .int .i64 a0_3, .int .i64 a0_4, .int .i64 a0_5, .int .i64 a0_6, .int .i64 a0_7] 50 (0, 0)) (by (with_reducible repeat (first | refine blk_drewN ?_ _ | refine blk_drew ?_ | refine blk_alloc ?_ _)); exact BK129.out) hb); have n5_ := Aside0.mk (below_step (by repeat (first | (with_reducible first | exact HB.out | apply below_alloc | apply pw_below_drewN | apply below_drew1 | refine below_set ?_ GE129.out) | exact HB.out)) hb); clear HO_4; clear HO_5; clear HO_6; clear BK129; clear HB; have HO_4 := n0_; have HO_5 := n1_; have HO_6 := n2_; have HO144 := n3_; have BK129 := n4_; have HB := n5_; clear n0_ n1_ n2_ n3_ n4_ n5_; clear hb ho33))
                              go_loopg [10] k4 (fun kq v10 w' => ∃ (x10_5 : Int), v10 = .int .i64 x10_5 ∧ Aside0 (quilllaw13_ParasMove.l3 kq x3_1 t133 t136 y139 x7_3 x8_4 y142 x10_5 l0_0 a0_1 a0_2 a0_3 a0_4 a0_5 a0_6 a0_7 = some r) ∧ Aside0 (kq ≤ k4) ∧ Aside0 (Kd.R (Kd.int .i32) 21 w' w.heap.size (fun _ => True) (.slice Ao22 t133.length co22) t133) ∧ Aside0 (Kd.R (Kd.int .i64) 3 w' w.heap.size (fun k_ => some k_ ≠ ((.slice Ao28 y139.length co28) : Value).ownBlock ∧ some k_ ≠ (v143 : Value).ownBlock) (.slice Ao30 t136.length co30) t136) ∧ Aside0 (Kd.R (Kd.int .i64) 3 w' w.heap.size (fun k_ => some k_ ≠ ((.slice Ao30 t136.length co30) : Value).ownBlock ∧ some k_ ≠ (v143 : Value).ownBlock) (.slice Ao28 y139.length co28) y139) ∧ Aside0 (Kd.R (Kd.int .i64) 3 w' w.heap.size (fun k_ => some k_ ≠ ((.slice Ao30 t136.length co30) : Value).ownBlock ∧ some k_ ≠ ((.slice Ao28 y139.length co28) : Value).ownBlock) v143 y142) ∧ Aside0 (w'.heap[gb129]? = some (.cells #[(.slice (some ad132) l0_0.length c0_0), .int .i64 a0_1, .int .i64 a0_2, .int .i64 a0_3, .int .i64 a0_4, .int .i64 a0_5, .int .i64 a0_6, .int .i64 a0_7] 50 (0, 0))) ∧ Aside0 (Below w.heap.size w w'))
                              case atStart => exact ⟨(0), (by first | rfl | (simp; done) | (simp [*]; done)), H', ⟨Nat.le_refl _⟩, ⟨by (with_reducible repeat (first | apply Kd.R_alloc | apply Kd.R_drewN | apply Kd.R_drew)); exact HO_4.out⟩, ⟨by (with_reducible repeat (first | apply Kd.R_alloc | apply Kd.R_drewN | apply Kd.R_drew)); exact HO_5.out⟩, ⟨by (with_reducible repeat (first | apply Kd.R_alloc | apply Kd.R_drewN | apply Kd.R_drew)); exact HO_6.out⟩, ⟨by (with_reducible repeat (first | apply Kd.R_alloc | apply Kd.R_drewN | apply Kd.R_drew)); exact Kd.R_mono HO144.out (fun _ hk => ⟨hk.1.2, hk.2⟩)⟩, ⟨by (with_reducible repeat (first | refine blk_drewN ?_ _ | refine blk_drew ?_ | refine blk_alloc ?_ _)); exact BK129.out⟩, ⟨by repeat (first | (with_reducible first | exact HB.out | apply below_alloc | apply pw_below_drewN | apply below_drew1 | refine below_set ?_ GE129.out) | exact HB.out)⟩⟩
                              case round =>
                                clear H'
                                try clear c1
                                try clear p1
                                try clear q1
                                try clear hx1
                                try clear c2
                                try clear p2
                                try clear c3
                                try clear p6
                                try clear c7
                                try clear c11
                                try clear c11b0
                                try clear p13
                                try clear q13
                                try clear hx13
                                try clear c14
                                try clear c15
                                try clear c15b0
                                try clear c16
                                try clear c16b0
                                try clear c25
                                try clear c27
                                try clear c27b0
                                try clear c29
                                try clear c29b0
                                try clear c30
                                try clear hcz12_0
                                try clear hcz12_1
                                try clear hcz12_2
                                try clear hcz12_3
                                try clear hcz12_4
                                try clear hcz12_5
                                try clear hcz12_6
                                try clear hcz12_7
                                try clear hcz13_0
                                try clear hcz13_1
                                try clear hcz13_2
                                try clear hcz13_3
                                try clear hcz13_4
                                try clear hcz13_5
                                try clear hcz13_6
                                try clear hcz13_7
                                try clear hcz19_0
                                try clear hcz19_1
                                try clear hcz19_2
                                try clear hcz19_3
                                try clear hcz19_4
                                try clear hcz19_5
                                try clear hcz19_6
                                try clear hcz19_7
                                try clear hcz21_0
                                try clear hcz21_1
                                try clear hcz21_2
                                try clear hcz21_3
                                try clear hcz21_4
                                try clear hcz21_5
                                try clear hcz21_6
                                try clear hcz21_7
                                try clear hcz24_0
                                try clear hcz24_1
                                try clear hcz24_2
                                try clear hcz24_3
                                try clear hcz24_4
                                try clear hcz24_5
                                try clear hcz24_6
                                try clear hcz24_7
                                try clear hcz31_0
                                try clear hcz31_1
                                try clear hcz31_2
                                try clear hcz31_3
                                try clear hcz31_4
                                try clear hcz31_5
                                try clear hcz31_6
                                try clear hcz31_7
                                try clear hcz5_0
                                try clear hcz5_1
                                try clear hcz5_2
                                try clear hcz5_3
                                try clear hcz5_4
                                try clear hcz5_5
                                try clear hcz5_6
                                try clear hcz5_7
                                try clear hcz8_0
                                try clear hcz8_1
                                try clear hcz8_2
                                try clear hcz8_3
                                try clear hcz8_4
                                try clear hcz8_5
                                try clear hcz8_6
                                try clear hcz8_7
                                try clear hfz12_0
                                try clear hfz12_1
                                try clear hfz12_2
                                try clear hfz12_3
                                try clear hfz12_4
                                try clear hfz12_5
                                try clear hfz12_6
                                try clear hfz12_7
                                try clear hfz13_0
                                try clear hfz13_1
                                try clear hfz13_2
                                try clear hfz13_3
                                try clear hfz13_4
                                try clear hfz13_5
                                try clear hfz13_6
                                try clear hfz13_7
                                try clear hfz19_0
                                try clear hfz19_1
                                try clear hfz19_2
                                try clear hfz19_3
                                try clear hfz19_4
                                try clear hfz19_5
                                try clear hfz19_6
                                try clear hfz19_7
                                try clear hfz21_0
                                try clear hfz21_1
                                try clear hfz21_2
                                try clear hfz21_3
                                try clear hfz21_4
                                try clear hfz21_5
                                try clear hfz21_6
                                try clear hfz21_7
                                try clear hfz24_0
                                try clear hfz24_1
                                try clear hfz24_2
                                try clear hfz24_3
                                try clear hfz24_4
                                try clear hfz24_5
                                try clear hfz24_6
                                try clear hfz24_7
                                try clear hfz31_0
                                try clear hfz31_1
                                try clear hfz31_2
                                try clear hfz31_3
                                try clear hfz31_4
                                try clear hfz31_5
                                try clear hfz31_6
                                try clear hfz31_7
                                try clear hfz5_0
                                try clear hfz5_1
                                try clear hfz5_2
                                try clear hfz5_3
                                try clear hfz5_4
                                try clear hfz5_5
                                try clear hfz5_6
                                try clear hfz5_7
                                try clear hfz8_0
                                try clear hfz8_1
                                try clear hfz8_2
                                try clear hfz8_3
                                try clear hfz8_4
                                try clear hfz8_5
                                try clear hfz8_6
                                try clear hfz8_7
                                try clear hx132_0
                                try clear p1
                                try clear p13
                                try clear p132
                                try clear p2
                                try clear q1
                                try clear q13
                                try clear q132
                                obtain ⟨x10_5, rfl, HA, HK5, HO_4, HO_5, HO_6, HO_9, BK129, HB⟩ := hrel
                                cases gk with
                                | zero => exact absurd HA.out (by simp [quilllaw13_ParasMove.l3])
                                | succ k5 =>
                                  have H := HA.out
                                  clear HA
                                  simp only [quilllaw13_ParasMove.l3] at H
                                  by_cases c34 : x10_5 < 3
                                  · rw [if_pos c34] at H
                                    have c34b0 : decide (x10_5 < 3) = true := decide_eq_true c34
                                    clear c34
                                    by_cases c35 : 0 ≤ x3_1
                                    · rw [if_pos c35] at H
                                      have c35b0 : decide (0 ≤ x3_1) = true := decide_eq_true c35
                                      clear c35
                                      by_cases c36 : x3_1 < (l0_0.length : Int)
                                      · rw [if_pos c36] at H
                                        have c36b0 : decide (x3_1 < (l0_0.length : Int)) = true := decide_eq_true c36
                                        clear c36
                                        by_cases c37 : 0 ≤ x8_4
                                        · rw [if_pos c37] at H
                                          have c37b0 : decide (0 ≤ x8_4) = true := decide_eq_true c37
                                          clear c37
                                          by_cases c38 : x8_4 < (t136.length : Int)
                                          · rw [if_pos c38] at H
                                            have c38b0 : decide (x8_4 < (t136.length : Int)) = true := decide_eq_true c38
                                            clear c38
                                            by_cases c39 : 0 ≤ x7_3
                                            · rw [if_pos c39] at H
                                              have c39b0 : decide (0 ≤ x7_3) = true := decide_eq_true c39
                                              clear c39
                                              by_cases c40 : x7_3 < (y139.length : Int)
                                              · rw [if_pos c40] at H
                                                have c40b0 : decide (x7_3 < (y139.length : Int)) = true := decide_eq_true c40
                                                clear c40
                                                by_cases c41 : 0 ≤ x10_5
                                                · rw [if_pos c41] at H
                                                  have c41b0 : decide (0 ≤ x10_5) = true := decide_eq_true c41
                                                  clear c41
                                                  by_cases c42 : x10_5 < (y142.length : Int)
                                                  · rw [if_pos c42] at H
                                                    have c42b0 : decide (x10_5 < (y142.length : Int)) = true := decide_eq_true c42
                                                    clear c42
                                                    replace H := Option.bind_eq_some_iff.mp H
                                                    obtain ⟨⟨t149, t150⟩, A430, H⟩ := H
                                                    replace H : ((quillref1_May.f k5 (rdOf ByteArray.empty l0_0 x3_1)).bind fun t152 => (if t152 = true then ((quillref0_Num.f (rd t136 x8_4) (t133.length : Int)).bind fun t154 => (if t154 = true then (if (rd y139 x7_3) = 123 then ((quillref0_Between.f (rd y142 x10_5) 1 999).bind fun t157 => (quilllaw13_ParasMove.j5 k5 x3_1 t133 t136 y139 x7_3 x8_4 y142 x10_5 t149 t150 1 0 t157 l0_0 a0_1 a0_2 a0_3 a0_4 a0_5 a0_6 a0_7)) else (if (rd y139 x7_3) = 125 then ((quillref0_Between.f (rd y142 x10_5) 1 999).bind fun t160 => (quilllaw13_ParasMove.j5 k5 x3_1 t133 t136 y139 x7_3 x8_4 y142 x10_5 t149 t150 1 0 t160 l0_0 a0_1 a0_2 a0_3 a0_4 a0_5 a0_6 a0_7)) else (quilllaw13_ParasMove.j5 k5 x3_1 t133 t136 y139 x7_3 x8_4 y142 x10_5 t149 t150 1 0 false l0_0 a0_1 a0_2 a0_3 a0_4 a0_5 a0_6 a0_7))) else (quilllaw13_ParasMove.j5 k5 x3_1 t133 t136 y139 x7_3 x8_4 y142 x10_5 t149 t150 1 0 false l0_0 a0_1 a0_2 a0_3 a0_4 a0_5 a0_6 a0_7))) else (quilllaw13_ParasMove.j5 k5 x3_1 t133 t136 y139 x7_3 x8_4 y142 x10_5 t149 t150 1 0 false l0_0 a0_1 a0_2 a0_3 a0_4 a0_5 a0_6 a0_7))) = some r := H
                                                    have A43 := Aside0.mk A430
                                                    clear A430
                                                    have HC44 := Aside0.mk H
                                                    clear H
                                                    try go_wp2
                                                    have n0_ := Aside0.mk (Kd.R_drew HO_4.out)
                                                    have n1_ := Aside0.mk (Kd.R_drew HO_5.out)
                                                    have n2_ := Aside0.mk (Kd.R_drew HO_6.out)
                                                    have n3_ := Aside0.mk (Kd.R_drew HO_9.out)
                                                    have n4_ := Aside0.mk (blk_drew BK129.out)
                                                    have n5_ := Aside0.mk (below_drew1 HB.out)
                                                    clear HO_4
                                                    clear HO_5
                                                    clear HO_6
                                                    clear HO_9
                                                    clear BK129
                                                    clear HB
                                                    have HO_4 := n0_
                                                    have HO_5 := n1_
                                                    have HO_6 := n2_
                                                    have HO_9 := n3_
                                                    have BK129 := n4_
                                                    have HB := n5_
                                                    clear n0_ n1_ n2_ n3_ n4_ n5_
                                                    have p145 : 0 ≤ (x3_1 : Int) := of_decide_eq_true (by first | (with_reducible assumption) | assumption)
                                                    have q145 : x3_1 < (l0_0.length : Int) := of_decide_eq_true (by first | (with_reducible assumption) | assumption)
                                                    obtain ⟨ad145, e145, hx145_0⟩ := Kd.at_string HR0_0.out x3_1 p145 q145
                                                    have hw145_0 := hx145_0
                                                    obtain rfl : ad132 = ad145 := (by injection e145)
                                                    replace hx145_0 := (HB.out.cell (World.block_lt_of_cell? w _ hx145_0)).trans hx145_0
                                                    replace p145 := eq_true p145
                                                    replace q145 := eq_true q145
                                                    have p146 : 0 ≤ (x8_4 : Int) := of_decide_eq_true (by first | (with_reducible assumption) | assumption)
                                                    have q146 : x8_4 < (t136.length : Int) := of_decide_eq_true (by first | (with_reducible assumption) | assumption)
                                                    obtain ⟨ad146, e146, hx146_0⟩ := Kd.at_int (Kd.R_reads' HO_5.out).2.2 x8_4 p146 q146
                                                    cases e146
                                                    replace p146 := eq_true p146
                                                    replace q146 := eq_true q146
                                                    have p147 : 0 ≤ (x7_3 : Int) := of_decide_eq_true (by first | (with_reducible assumption) | assumption)
                                                    have q147 : x7_3 < (y139.length : Int) := of_decide_eq_true (by first | (with_reducible assumption) | assumption)
                                                    obtain ⟨ad147, e147, hx147_0⟩ := Kd.at_int (Kd.R_reads' HO_6.out).2.2 x7_3 p147 q147
                                                    cases e147
                                                    replace p147 := eq_true p147
                                                    replace q147 := eq_true q147
                                                    obtain ⟨Ao46, co46, eo46⟩ := Kd.R_slice HO_9.out
                                                    (first | subst eo46 | (injection eo46 with f1_ f2_ f3_; have f4_ := f1_.symm; have f5_ := f3_.symm; clear f1_ f2_ f3_; subst f4_; subst f5_))
                                                    have p148 : 0 ≤ (x10_5 : Int) := of_decide_eq_true (by first | (with_reducible assumption) | assumption)
                                                    have q148 : x10_5 < (y142.length : Int) := of_decide_eq_true (by first | (with_reducible assumption) | assumption)
                                                    obtain ⟨ad148, e148, hx148_0⟩ := Kd.at_int (Kd.R_reads' HO_9.out).2.2 x10_5 p148 q148
                                                    cases e148
                                                    replace p148 := eq_true p148
                                                    replace q148 := eq_true q148
                                                    refine start_ (n := 24) (S := fun w' => w'.cell? ⟨gb129, 0, none⟩ = some (.slice (some ad132) l0_0.length c0_0) ∧ w'.cell? ⟨gb129, 1, none⟩ = some (.int .i64 a0_1) ∧ w'.cell? ⟨gb129, 2, none⟩ = some (.int .i64 a0_2) ∧ w'.cell? ⟨gb129, 3, none⟩ = some (.int .i64 a0_3) ∧ w'.cell? ⟨gb129, 4, none⟩ = some (.int .i64 a0_4) ∧ w'.cell? ⟨gb129, 5, none⟩ = some (.int .i64 a0_5) ∧ w'.cell? ⟨gb129, 6, none⟩ = some (.int .i64 a0_6) ∧ w'.cell? ⟨gb129, 7, none⟩ = some (.int .i64 a0_7) ∧ w'.cell? (ad132.add (x3_1).toNat) = some (.string (rdOf ByteArray.empty l0_0 x3_1)) ∧ w'.cell? (ad146.add (x8_4).toNat) = some (.int .i64 (rd t136 x8_4)) ∧ w'.cell? (ad147.add (x7_3).toNat) = some (.int .i64 (rd y139 x7_3)) ∧ w'.cell? (ad148.add (x10_5).toNat) = some (.int .i64 (rd y142 x10_5))) (ds := []) #[false, false, false, false, false, false, false, false, false, false, false, false, false, false, false, false, false, false, false, false, false, false, false, false] (by kernel_rfl) rfl rfl ⟨(blk_cell BK129.out 0).trans rfl, (blk_cell BK129.out 1).trans rfl, (blk_cell BK129.out 2).trans rfl, (blk_cell BK129.out 3).trans rfl, (blk_cell BK129.out 4).trans rfl, (blk_cell BK129.out 5).trans rfl, (blk_cell BK129.out 6).trans rfl, (blk_cell BK129.out 7).trans rfl, ((HB.out.cell (World.block_lt_of_cell? w _ hw145_0)).trans hw145_0), hx146_0, hx147_0, hx148_0⟩ (fun hHeld => ?_); refine with_tabW quilllaw13_ParasMove.tab19 quilllaw13_ParasMove.bits19 (fun HT_ HW_ => ?_)
                                                    generalize wr.drew = w45 at HO_4 HO_5 HO_6 HO_9 BK129 HB hx145_0 hx146_0 hx147_0 hx148_0 hHeld ⊢
                                                    refine pure_ (i := 0) (N := some 65) (v := ?_) (a' := ?_) #[true, false, false, false, false, false, false, false, false, false, false, false, false, false, false, false, false, false, false, false, false, false, false, false] rfl rfl (any_of HT_.out (by kernel_rfl)) (fun _ _ _ h => h) (Or.inl ⟨by rfl, ?_⟩) ?_ ?_
                                                    rotate_left
                                                    · intro w'
                                                      go_simp
                                                      with_reducible rfl
                                                    rotate_left
                                                    · simp only [Act.put, List.setIfInBounds_toArray, List.set_cons_zero, List.set_cons_succ, i64_w, i32_w]
                                                      rfl
                                                    refine pure_ (i := 1) (N := some 66) (v := ?_) (a' := ?_) #[true, true, false, false, false, false, false, false, false, false, false, false, false, false, false, false, false, false, false, false, false, false, false, false] rfl rfl (any_of HT_.out (by kernel_rfl)) (fun _ _ _ h => h) (Or.inl ⟨by rfl, ?_⟩) ?_ ?_
                                                    rotate_left
                                                    · intro w'
                                                      go_simp
                                                      with_reducible rfl
                                                    rotate_left
                                                    · simp only [Act.put, List.setIfInBounds_toArray, List.set_cons_zero, List.set_cons_succ, i64_w, i32_w]
                                                      rfl
                                                    refine pure_ (i := 3) (N := some 68) (v := ?_) (a' := ?_) #[true, true, false, true, false, false, false, false, false, false, false, false, false, false, false, false, false, false, false, false, false, false, false, false] rfl rfl (any_of HT_.out (by kernel_rfl)) (fun _ _ _ h => h) (Or.inl ⟨by rfl, ?_⟩) ?_ ?_
                                                    rotate_left
                                                    · intro w'
                                                      go_simp
                                                      with_reducible rfl
                                                    rotate_left
                                                    · simp only [Act.put, List.setIfInBounds_toArray, List.set_cons_zero, List.set_cons_succ, i64_w, i32_w]
                                                      rfl
                                                    refine pure_ (i := 6) (N := some 71) (v := ?_) (a' := ?_) #[true, true, false, true, false, false, true, false, false, false, false, false, false, false, false, false, false, false, false, false, false, false, false, false] rfl rfl (any_of HT_.out (by kernel_rfl)) (fun _ _ _ h => h) (Or.inl ⟨by rfl, ?_⟩) ?_ ?_
                                                    rotate_left
                                                    · intro w'
                                                      go_simp
                                                      with_reducible rfl
                                                    rotate_left
                                                    · simp only [Act.put, List.setIfInBounds_toArray, List.set_cons_zero, List.set_cons_succ, i64_w, i32_w]
                                                      rfl
                                                    refine pure_ (i := 7) (N := some 72) (v := ?_) (a' := ?_) #[true, true, false, true, false, false, true, true, false, false, false, false, false, false, false, false, false, false, false, false, false, false, false, false] rfl rfl (any_of HT_.out (by kernel_rfl)) (fun _ _ _ h => h) (Or.inl ⟨by rfl, ?_⟩) ?_ ?_
                                                    rotate_left
                                                    · intro w'
                                                      go_simp
                                                      with_reducible rfl
                                                    rotate_left
                                                    · simp only [Act.put, List.setIfInBounds_toArray, List.set_cons_zero, List.set_cons_succ, i64_w, i32_w]
                                                      rfl
                                                    refine pure_ (i := 8) (N := some 73) (v := ?_) (a' := ?_) #[true, true, false, true, false, false, true, true, true, false, false, false, false, false, false, false, false, false, false, false, false, false, false, false] rfl rfl (any_of HT_.out (by kernel_rfl)) (fun _ _ _ h => h) (Or.inl ⟨by rfl, ?_⟩) ?_ ?_
                                                    rotate_left
                                                    · intro w'
                                                      go_simp
                                                      with_reducible rfl
                                                    rotate_left
                                                    · simp only [Act.put, List.setIfInBounds_toArray, List.set_cons_zero, List.set_cons_succ, i64_w, i32_w]
                                                      rfl
                                                    refine pure_ (i := 10) (N := some 75) (v := ?_) (a' := ?_) #[true, true, false, true, false, false, true, true, true, false, true, false, false, false, false, false, false, false, false, false, false, false, false, false] rfl rfl (any_of HT_.out (by kernel_rfl)) (fun _ _ _ h => h) (Or.inl ⟨by rfl, ?_⟩) ?_ ?_
                                                    rotate_left
                                                    · intro w'
                                                      go_simp
                                                      with_reducible rfl
                                                    rotate_left
                                                    · simp only [Act.put, List.setIfInBounds_toArray, List.set_cons_zero, List.set_cons_succ, i64_w, i32_w]
                                                      rfl
                                                    refine pure_ (i := 11) (N := some 76) (v := ?_) (a' := ?_) #[true, true, false, true, false, false, true, true, true, false, true, true, false, false, false, false, false, false, false, false, false, false, false, false] rfl rfl (any_of HT_.out (by kernel_rfl)) (fun _ _ _ h => h) (Or.inl ⟨by rfl, ?_⟩) ?_ ?_
                                                    rotate_left
                                                    · intro w'
                                                      go_simp
                                                      with_reducible rfl
                                                    rotate_left
                                                    · simp only [Act.put, List.setIfInBounds_toArray, List.set_cons_zero, List.set_cons_succ, i64_w, i32_w]
                                                      rfl
                                                    refine pure_ (i := 12) (N := some 77) (v := ?_) (a' := ?_) #[true, true, false, true, false, false, true, true, true, false, true, true, true, false, false, false, false, false, false, false, false, false, false, false] rfl rfl (any_of HT_.out (by kernel_rfl)) (fun _ _ _ h => h) (Or.inl ⟨by rfl, ?_⟩) ?_ ?_
                                                    rotate_left
                                                    · intro w'
                                                      go_simp
                                                      with_reducible rfl
                                                    rotate_left
                                                    · simp only [Act.put, List.setIfInBounds_toArray, List.set_cons_zero, List.set_cons_succ, i64_w, i32_w]
                                                      rfl
                                                    refine pure_ (i := 14) (N := some 79) (v := ?_) (a' := ?_) #[true, true, false, true, false, false, true, true, true, false, true, true, true, false, true, false, false, false, false, false, false, false, false, false] rfl rfl (any_of HT_.out (by kernel_rfl)) (fun _ _ _ h => h) (Or.inl ⟨by rfl, ?_⟩) ?_ ?_
                                                    rotate_left
                                                    · intro w'
                                                      go_simp
                                                      with_reducible rfl
                                                    rotate_left
                                                    · simp only [Act.put, List.setIfInBounds_toArray, List.set_cons_zero, List.set_cons_succ, i64_w, i32_w]
                                                      rfl
                                                    refine pure_ (i := 15) (N := some 80) (v := ?_) (a' := ?_) #[true, true, false, true, false, false, true, true, true, false, true, true, true, false, true, true, false, false, false, false, false, false, false, false] rfl rfl (any_of HT_.out (by kernel_rfl)) (fun _ _ _ h => h) (Or.inl ⟨by rfl, ?_⟩) ?_ ?_
                                                    rotate_left
                                                    · intro w'
                                                      go_simp
                                                      with_reducible rfl
                                                    rotate_left
                                                    · simp only [Act.put, List.setIfInBounds_toArray, List.set_cons_zero, List.set_cons_succ, i64_w, i32_w]
                                                      rfl
                                                    refine pure_ (i := 16) (N := some 81) (v := ?_) (a' := ?_) #[true, true, false, true, false, false, true, true, true, false, true, true, true, false, true, true, true, false, false, false, false, false, false, false] rfl rfl (any_of HT_.out (by kernel_rfl)) (fun _ _ _ h => h) (Or.inl ⟨by rfl, ?_⟩) ?_ ?_
                                                    rotate_left
                                                    · intro w'
                                                      go_simp
                                                      with_reducible rfl
                                                    rotate_left
                                                    · simp only [Act.put, List.setIfInBounds_toArray, List.set_cons_zero, List.set_cons_succ, i64_w, i32_w]
                                                      rfl
                                                    refine take_ (i := 2) (N := some 67) (v := ?_) (a' := ?_) #[true, true, true, true, false, false, true, true, true, false, true, true, true, false, true, true, true, false, false, false, false, false, false, false] rfl rfl (take_ofW HT_.out HW_.out (by kernel_rfl)) (fun _ _ _ h => h) (Or.inl ⟨by rfl, ?_⟩) hHeld ?_ ?_
                                                    rotate_left
                                                    · rintro w' ⟨s0, s1, s2, s3, s4, s5, s6, s7, s8, s9, s10, s11⟩
                                                      go_simp
                                                      with_reducible rfl
                                                    rotate_left
                                                    · simp only [Act.put, List.setIfInBounds_toArray, List.set_cons_zero, List.set_cons_succ, i64_w, i32_w]
                                                      rfl
                                                    refine pure_ (i := 4) (N := some 69) (v := ?_) (a' := ?_) #[true, true, true, true, true, false, true, true, true, false, true, true, true, false, true, true, true, false, false, false, false, false, false, false] rfl rfl (any_of HT_.out (by kernel_rfl)) (fun _ _ _ h => h) (Or.inl ⟨by rfl, ?_⟩) ?_ ?_
                                                    rotate_left
                                                    · intro w'
                                                      go_simp
                                                      with_reducible rfl
                                                    rotate_left
                                                    · simp only [Act.put, List.setIfInBounds_toArray, List.set_cons_zero, List.set_cons_succ, i64_w, i32_w]
                                                      rfl
                                                    refine take_ (i := 5) (N := some 70) (v := ?_) (a' := ?_) #[true, true, true, true, true, true, true, true, true, false, true, true, true, false, true, true, true, false, false, false, false, false, false, false] rfl rfl (take_ofW HT_.out HW_.out (by kernel_rfl)) (fun _ _ _ h => h) (Or.inl ⟨by rfl, ?_⟩) hHeld ?_ ?_
                                                    rotate_left
                                                    · rintro w' ⟨s0, s1, s2, s3, s4, s5, s6, s7, s8, s9, s10, s11⟩
                                                      go_simp
                                                      with_reducible rfl
                                                    rotate_left
                                                    · simp only [Act.put, List.setIfInBounds_toArray, List.set_cons_zero, List.set_cons_succ, i64_w, i32_w]
                                                      rfl
                                                    refine take_ (i := 9) (N := some 74) (v := ?_) (a' := ?_) #[true, true, true, true, true, true, true, true, true, true, true, true, true, false, true, true, true, false, false, false, false, false, false, false] rfl rfl (take_ofW HT_.out HW_.out (by kernel_rfl)) (fun _ _ _ h => h) (Or.inl ⟨by rfl, ?_⟩) hHeld ?_ ?_
                                                    rotate_left
                                                    · rintro w' ⟨s0, s1, s2, s3, s4, s5, s6, s7, s8, s9, s10, s11⟩
                                                      go_simp
                                                      with_reducible rfl
                                                    rotate_left
                                                    · simp only [Act.put, List.setIfInBounds_toArray, List.set_cons_zero, List.set_cons_succ, i64_w, i32_w]
                                                      rfl
                                                    refine take_ (i := 13) (N := some 78) (v := ?_) (a' := ?_) #[true, true, true, true, true, true, true, true, true, true, true, true, true, true, true, true, true, false, false, false, false, false, false, false] rfl rfl (take_ofW HT_.out HW_.out (by kernel_rfl)) (fun _ _ _ h => h) (Or.inl ⟨by rfl, ?_⟩) hHeld ?_ ?_
                                                    rotate_left
                                                    · rintro w' ⟨s0, s1, s2, s3, s4, s5, s6, s7, s8, s9, s10, s11⟩
                                                      go_simp
                                                      with_reducible rfl
                                                    rotate_left
                                                    · simp only [Act.put, List.setIfInBounds_toArray, List.set_cons_zero, List.set_cons_succ, i64_w, i32_w]
                                                      rfl
                                                    refine take_ (i := 17) (N := some 82) (v := ?_) (a' := ?_) #[true, true, true, true, true, true, true, true, true, true, true, true, true, true, true, true, true, true, false, false, false, false, false, false] rfl rfl (take_ofW HT_.out HW_.out (by kernel_rfl)) (fun _ _ _ h => h) (Or.inl ⟨by rfl, ?_⟩) hHeld ?_ ?_
                                                    rotate_left
                                                    · rintro w' ⟨s0, s1, s2, s3, s4, s5, s6, s7, s8, s9, s10, s11⟩
                                                      go_simp
                                                      with_reducible rfl
                                                    rotate_left
                                                    · simp only [Act.put, List.setIfInBounds_toArray, List.set_cons_zero, List.set_cons_succ, i64_w, i32_w]
                                                      rfl
                                                    refine one_ (i := 18) (N := some 83) #[true, true, true, true, true, true, true, true, true, true, true, true, true, true, true, true, true, true, true, false, false, false, false, false] rfl rfl (one_of HT_.out (by kernel_rfl)) (by decide) (fun K hK => ?_)
                                                    refine goes_ Tryd.func35 (by kernel_rfl) rfl #[.string (rdOf ByteArray.empty l0_0 x3_1), .int .i64 (rd t136 x8_4), .int .i64 (rd y139 x7_3), .int .i64 (rd y142 x10_5)] (by rfl) rfl rfl (by (try simp only [List.map_toArray, List.map_cons, List.map_nil]); first | done | rfl | (simp only [List.length_drop, List.length_take]; rfl)) ?_
                                                    with_reducible refine (paras_Move.calls (rdOf ByteArray.empty l0_0 x3_1) (rd t136 x8_4) (rd y139 x7_3) (rd y142 x10_5) t149 t150 _ ?side1 A43.out).mono ?_
                                                    (case side1 => repeat (first | exact HT.out | exact T_below HT.out HB.out | (with_reducible refine T_alloc ?_ _) | (with_reducible refine T_drewN ?_ _) | (with_reducible refine T_drew ?_) | exact T_below HT.out (by repeat (first | (with_reducible first | exact HB.out | apply below_alloc | apply pw_below_drewN | apply below_drew1 | refine below_set ?_ GE129.out) | exact HB.out))))
                                                    rintro e w47 ⟨rfl, hb⟩
                                                    have HS9_ := (hb.cell (World.block_lt_of_cell? _ _ (hHeld.2.2.2.2.2.2.2.2.2.1))).trans (hHeld.2.2.2.2.2.2.2.2.2.1)
                                                    have HS10_ := (hb.cell (World.block_lt_of_cell? _ _ (hHeld.2.2.2.2.2.2.2.2.2.2.1))).trans (hHeld.2.2.2.2.2.2.2.2.2.2.1)
                                                    have HS11_ := (hb.cell (World.block_lt_of_cell? _ _ (hHeld.2.2.2.2.2.2.2.2.2.2.2))).trans (hHeld.2.2.2.2.2.2.2.2.2.2.2)
                                                    refine ⟨_, rfl, ?_⟩
                                                    have n0_ := Aside0.mk (Kd.R_below (by (with_reducible repeat (first | apply Kd.R_alloc | apply Kd.R_drewN | apply Kd.R_drew)); exact HO_4.out) hb)
                                                    have n1_ := Aside0.mk (Kd.R_below (by (with_reducible repeat (first | apply Kd.R_alloc | apply Kd.R_drewN | apply Kd.R_drew)); exact HO_5.out) hb)
                                                    have n2_ := Aside0.mk (Kd.R_below (by (with_reducible repeat (first | apply Kd.R_alloc | apply Kd.R_drewN | apply Kd.R_drew)); exact HO_6.out) hb)
                                                    have n3_ := Aside0.mk (Kd.R_below (by (with_reducible repeat (first | apply Kd.R_alloc | apply Kd.R_drewN | apply Kd.R_drew)); exact HO_9.out) hb)
                                                    have n4_ := Aside0.mk (blk_below (g := gb129) (o := .cells #[.slice (some ad132) l0_0.length c0_0, .int .i64 a0_1, .int .i64 a0_2, .int .i64 a0_3, .int .i64 a0_4, .int .i64 a0_5, .int .i64 a0_6, .int .i64 a0_7] 50 (0, 0)) (by (with_reducible repeat (first | refine blk_drewN ?_ _ | refine blk_drew ?_ | refine blk_alloc ?_ _)); exact BK129.out) hb)
                                                    have n5_ := Aside0.mk (below_step (by repeat (first | (with_reducible first | exact HB.out | apply below_alloc | apply pw_below_drewN | apply below_drew1 | refine below_set ?_ GE129.out) | exact HB.out)) hb)
                                                    clear HO_4
                                                    clear HO_5
                                                    clear HO_6
                                                    clear HO_9
                                                    clear BK129
                                                    clear HB
                                                    have HO_4 := n0_
                                                    have HO_5 := n1_
                                                    have HO_6 := n2_
                                                    have HO_9 := n3_
                                                    have BK129 := n4_
                                                    have HB := n5_
                                                    clear n0_ n1_ n2_ n3_ n4_ n5_
                                                    (try clear hb)
                                                    (try clear hb2)
                                                    (try clear hk)
                                                    (try clear hi)
                                                    refine hK.out _ _ ⟨(blk_cell BK129.out 0).trans rfl, (blk_cell BK129.out 1).trans rfl, (blk_cell BK129.out 2).trans rfl, (blk_cell BK129.out 3).trans rfl, (blk_cell BK129.out 4).trans rfl, (blk_cell BK129.out 5).trans rfl, (blk_cell BK129.out 6).trans rfl, (blk_cell BK129.out 7).trans rfl, ((HB.out.cell (World.block_lt_of_cell? w _ hw145_0)).trans hw145_0), HS9_, HS10_, HS11_⟩ (fun hHeld => ?_)
                                                    clear hK K
                                                    refine norm_ (a' := ?_) ?_ ?_
                                                    rotate_left
                                                    · show Act.put _ (some 83) _ = _
                                                      simp only [Act.put, List.setIfInBounds_toArray, List.set_cons_zero, List.set_cons_succ, i64_w, i32_w]
                                                      rfl
                                                    refine pure_ (i := 19) (N := some 64) (v := ?_) (a' := ?_) #[true, true, true, true, true, true, true, true, true, true, true, true, true, true, true, true, true, true, true, true, false, false, false, false] rfl rfl (any_of HT_.out (by kernel_rfl)) (fun _ _ _ h => h) (Or.inl ⟨by rfl, ?_⟩) ?_ ?_
                                                    rotate_left
                                                    · intro w'
                                                      go_simp
                                                      with_reducible rfl
                                                    rotate_left
                                                    · simp only [Act.put, List.setIfInBounds_toArray, List.set_cons_zero, List.set_cons_succ, i64_w, i32_w]
                                                      rfl
                                                    refine pure_ (i := 20) (N := some 84) (v := ?_) (a' := ?_) #[true, true, true, true, true, true, true, true, true, true, true, true, true, true, true, true, true, true, true, true, true, false, false, false] rfl rfl (any_of HT_.out (by kernel_rfl)) (fun _ _ _ h => h) (Or.inl ⟨by rfl, ?_⟩) ?_ ?_
                                                    rotate_left
                                                    · intro w'
                                                      go_simp
                                                      with_reducible rfl
                                                    rotate_left
                                                    · simp only [Act.put, List.setIfInBounds_toArray, List.set_cons_zero, List.set_cons_succ, i64_w, i32_w]
                                                      rfl
                                                    refine pure_ (i := 21) (N := some 85) (v := ?_) (a' := ?_) #[true, true, true, true, true, true, true, true, true, true, true, true, true, true, true, true, true, true, true, true, true, true, false, false] rfl rfl (any_of HT_.out (by kernel_rfl)) (fun _ _ _ h => h) (Or.inl ⟨by rfl, ?_⟩) ?_ ?_
                                                    rotate_left
                                                    · intro w'
                                                      go_simp
                                                      with_reducible rfl
                                                    rotate_left
                                                    · simp only [Act.put, List.setIfInBounds_toArray, List.set_cons_zero, List.set_cons_succ, i64_w, i32_w]
                                                      rfl
                                                    refine pure_ (i := 22) (N := some 11) (v := ?_) (a' := ?_) #[true, true, true, true, true, true, true, true, true, true, true, true, true, true, true, true, true, true, true, true, true, true, true, false] rfl rfl (any_of HT_.out (by kernel_rfl)) (fun _ _ _ h => h) (Or.inl ⟨by rfl, ?_⟩) ?_ ?_
                                                    rotate_left
                                                    · intro w'
                                                      go_simp
                                                      with_reducible rfl
                                                    rotate_left
                                                    · simp only [Act.put, List.setIfInBounds_toArray, List.set_cons_zero, List.set_cons_succ, i64_w, i32_w]
                                                      rfl
                                                    refine pure_ (i := 23) (N := some 12) (v := ?_) (a' := ?_) #[true, true, true, true, true, true, true, true, true, true, true, true, true, true, true, true, true, true, true, true, true, true, true, true] rfl rfl (any_of HT_.out (by kernel_rfl)) (fun _ _ _ h => h) (Or.inl ⟨by rfl, ?_⟩) ?_ ?_
                                                    rotate_left
                                                    · intro w'
                                                      go_simp
                                                      with_reducible rfl
                                                    rotate_left
                                                    · simp only [Act.put, List.setIfInBounds_toArray, List.set_cons_zero, List.set_cons_succ, i64_w, i32_w]
                                                      rfl
                                                    refine done_ (done_of HT_.out (by kernel_rfl)) ?_
                                                    go_upto_region 21 with (fail)
                                                    go_cut [122] (fun v122 wc => ∃ (kq : Nat) (x122_43 : Bool), v122 = .bool x122_43 ∧ Aside0 (quilllaw13_ParasMove.j5 kq x3_1 t133 t136 y139 x7_3 x8_4 y142 x10_5 t149 t150 1 0 x122_43 l0_0 a0_1 a0_2 a0_3 a0_4 a0_5 a0_6 a0_7 = some r) ∧ Aside0 (kq ≤ k5) ∧ Aside0 (Kd.R (Kd.int .i32) 21 wc w.heap.size (fun _ => True) (.slice Ao22 t133.length co22) t133) ∧ Aside0 (Kd.R (Kd.int .i64) 3 wc w.heap.size (fun k_ => some k_ ≠ ((.slice (some ad147) y139.length co28) : Value).ownBlock ∧ some k_ ≠ ((.slice (some ad148) y142.length co46) : Value).ownBlock) (.slice (some ad146) t136.length co30) t136) ∧ Aside0 (Kd.R (Kd.int .i64) 3 wc w.heap.size (fun k_ => some k_ ≠ ((.slice (some ad146) t136.length co30) : Value).ownBlock ∧ some k_ ≠ ((.slice (some ad148) y142.length co46) : Value).ownBlock) (.slice (some ad147) y139.length co28) y139) ∧ Aside0 (Kd.R (Kd.int .i64) 3 wc w.heap.size (fun k_ => some k_ ≠ ((.slice (some ad146) t136.length co30) : Value).ownBlock ∧ some k_ ≠ ((.slice (some ad147) y139.length co28) : Value).ownBlock) (.slice (some ad148) y142.length co46) y142) ∧ Aside0 (wc.heap[gb129]? = some (.cells #[(.slice (some ad132) l0_0.length c0_0), .int .i64 a0_1, .int .i64 a0_2, .int .i64 a0_3, .int .i64 a0_4, .int .i64 a0_5, .int .i64 a0_6, .int .i64 a0_7] 50 (0, 0))) ∧ Aside0 (Below w.heap.size w wc))
                                                    case first =>
                                                      have H := HC44.out
                                                      clear HC44
                                                      replace H := Option.bind_eq_some_iff.mp H
                                                      obtain ⟨t152, A480, H⟩ := H
                                                      replace H : (if t152 = true then ((quillref0_Num.f (rd t136 x8_4) (t133.length : Int)).bind fun t154 => (if t154 = true then (if (rd y139 x7_3) = 123 then ((quillref0_Between.f (rd y142 x10_5) 1 999).bind fun t157 => (quilllaw13_ParasMove.j5 k5 x3_1 t133 t136 y139 x7_3 x8_4 y142 x10_5 t149 t150 1 0 t157 l0_0 a0_1 a0_2 a0_3 a0_4 a0_5 a0_6 a0_7)) else (if (rd y139 x7_3) = 125 then ((quillref0_Between.f (rd y142 x10_5) 1 999).bind fun t160 => (quilllaw13_ParasMove.j5 k5 x3_1 t133 t136 y139 x7_3 x8_4 y142 x10_5 t149 t150 1 0 t160 l0_0 a0_1 a0_2 a0_3 a0_4 a0_5 a0_6 a0_7)) else (quilllaw13_ParasMove.j5 k5 x3_1 t133 t136 y139 x7_3 x8_4 y142 x10_5 t149 t150 1 0 false l0_0 a0_1 a0_2 a0_3 a0_4 a0_5 a0_6 a0_7))) else (quilllaw13_ParasMove.j5 k5 x3_1 t133 t136 y139 x7_3 x8_4 y142 x10_5 t149 t150 1 0 false l0_0 a0_1 a0_2 a0_3 a0_4 a0_5 a0_6 a0_7))) else (quilllaw13_ParasMove.j5 k5 x3_1 t133 t136 y139 x7_3 x8_4 y142 x10_5 t149 t150 1 0 false l0_0 a0_1 a0_2 a0_3 a0_4 a0_5 a0_6 a0_7)) = some r := H
                                                      have A48 := Aside0.mk A480
                                                      clear A480
                                                      by_cases c49 : t152 = true
                                                      · subst c49
                                                        have H1 : ((quillref0_Num.f (rd t136 x8_4) (t133.length : Int)).bind fun t154 => (if t154 = true then (if (rd y139 x7_3) = 123 then ((quillref0_Between.f (rd y142 x10_5) 1 999).bind fun t157 => (quilllaw13_ParasMove.j5 k5 x3_1 t133 t136 y139 x7_3 x8_4 y142 x10_5 t149 t150 1 0 t157 l0_0 a0_1 a0_2 a0_3 a0_4 a0_5 a0_6 a0_7)) else (if (rd y139 x7_3) = 125 then ((quillref0_Between.f (rd y142 x10_5) 1 999).bind fun t160 => (quilllaw13_ParasMove.j5 k5 x3_1 t133 t136 y139 x7_3 x8_4 y142 x10_5 t149 t150 1 0 t160 l0_0 a0_1 a0_2 a0_3 a0_4 a0_5 a0_6 a0_7)) else (quilllaw13_ParasMove.j5 k5 x3_1 t133 t136 y139 x7_3 x8_4 y142 x10_5 t149 t150 1 0 false l0_0 a0_1 a0_2 a0_3 a0_4 a0_5 a0_6 a0_7))) else (quilllaw13_ParasMove.j5 k5 x3_1 t133 t136 y139 x7_3 x8_4 y142 x10_5 t149 t150 1 0 false l0_0 a0_1 a0_2 a0_3 a0_4 a0_5 a0_6 a0_7))) = some r := by rw [if_pos rfl] at H; exact H
                                                        clear H
                                                        have H := H1
                                                        clear H1
                                                        replace H := Option.bind_eq_some_iff.mp H
                                                        obtain ⟨t154, A500, H⟩ := H
                                                        replace H : (if t154 = true then (if (rd y139 x7_3) = 123 then ((quillref0_Between.f (rd y142 x10_5) 1 999).bind fun t157 => (quilllaw13_ParasMove.j5 k5 x3_1 t133 t136 y139 x7_3 x8_4 y142 x10_5 t149 t150 1 0 t157 l0_0 a0_1 a0_2 a0_3 a0_4 a0_5 a0_6 a0_7)) else (if (rd y139 x7_3) = 125 then ((quillref0_Between.f (rd y142 x10_5) 1 999).bind fun t160 => (quilllaw13_ParasMove.j5 k5 x3_1 t133 t136 y139 x7_3 x8_4 y142 x10_5 t149 t150 1 0 t160 l0_0 a0_1 a0_2 a0_3 a0_4 a0_5 a0_6 a0_7)) else (quilllaw13_ParasMove.j5 k5 x3_1 t133 t136 y139 x7_3 x8_4 y142 x10_5 t149 t150 1 0 false l0_0 a0_1 a0_2 a0_3 a0_4 a0_5 a0_6 a0_7))) else (quilllaw13_ParasMove.j5 k5 x3_1 t133 t136 y139 x7_3 x8_4 y142 x10_5 t149 t150 1 0 false l0_0 a0_1 a0_2 a0_3 a0_4 a0_5 a0_6 a0_7)) = some r := H
                                                        have A50 := Aside0.mk A500
                                                        clear A500
                                                        by_cases c51 : t154 = true
                                                        · subst c51
                                                          have H1 : (if (rd y139 x7_3) = 123 then ((quillref0_Between.f (rd y142 x10_5) 1 999).bind fun t157 => (quilllaw13_ParasMove.j5 k5 x3_1 t133 t136 y139 x7_3 x8_4 y142 x10_5 t149 t150 1 0 t157 l0_0 a0_1 a0_2 a0_3 a0_4 a0_5 a0_6 a0_7)) else (if (rd y139 x7_3) = 125 then ((quillref0_Between.f (rd y142 x10_5) 1 999).bind fun t160 => (quilllaw13_ParasMove.j5 k5 x3_1 t133 t136 y139 x7_3 x8_4 y142 x10_5 t149 t150 1 0 t160 l0_0 a0_1 a0_2 a0_3 a0_4 a0_5 a0_6 a0_7)) else (quilllaw13_ParasMove.j5 k5 x3_1 t133 t136 y139 x7_3 x8_4 y142 x10_5 t149 t150 1 0 false l0_0 a0_1 a0_2 a0_3 a0_4 a0_5 a0_6 a0_7))) = some r := by rw [if_pos rfl] at H; exact H
                                                          clear H
                                                          have H := H1
                                                          clear H1
                                                          by_cases c52 : (rd y139 x7_3) = 123
                                                          · rw [if_pos c52] at H
                                                            have c52b0 : ((rd y139 x7_3) == 123) = true := beq_iff_eq.mpr c52
                                                            have c52b1 : ((rd y139 x7_3) != 123) = false := bne_eq_false_iff_eq.mpr c52
                                                            clear c52
                                                            (first | rw [c52b0] | (simp only [i64_w, i32_w]; rw [c52b0]) | skip)
                                                            replace H := Option.bind_eq_some_iff.mp H
                                                            obtain ⟨t157, A530, H⟩ := H
                                                            replace H : (quilllaw13_ParasMove.j5 k5 x3_1 t133 t136 y139 x7_3 x8_4 y142 x10_5 t149 t150 1 0 t157 l0_0 a0_1 a0_2 a0_3 a0_4 a0_5 a0_6 a0_7) = some r := H
                                                            have A53 := Aside0.mk A530
                                                            clear A530
                                                            have H' := Aside0.mk H
                                                            clear H
                                                            have hcz54_0 : w47.cell? ⟨gb129, 0, none⟩ = some (.slice (some ad132) l0_0.length c0_0) := (blk_cell BK129.out 0).trans rfl
                                                            have hcz54_1 : w47.cell? ⟨gb129, 1, none⟩ = some (.int .i64 a0_1) := (blk_cell BK129.out 1).trans rfl
                                                            have hcz54_2 : w47.cell? ⟨gb129, 2, none⟩ = some (.int .i64 a0_2) := (blk_cell BK129.out 2).trans rfl
                                                            have hcz54_3 : w47.cell? ⟨gb129, 3, none⟩ = some (.int .i64 a0_3) := (blk_cell BK129.out 3).trans rfl
                                                            have hcz54_4 : w47.cell? ⟨gb129, 4, none⟩ = some (.int .i64 a0_4) := (blk_cell BK129.out 4).trans rfl
                                                            have hcz54_5 : w47.cell? ⟨gb129, 5, none⟩ = some (.int .i64 a0_5) := (blk_cell BK129.out 5).trans rfl
                                                            have hcz54_6 : w47.cell? ⟨gb129, 6, none⟩ = some (.int .i64 a0_6) := (blk_cell BK129.out 6).trans rfl
                                                            have hcz54_7 : w47.cell? ⟨gb129, 7, none⟩ = some (.int .i64 a0_7) := (blk_cell BK129.out 7).trans rfl
                                                            have hfz54_0 := blk_frozen BK129.out 0
                                                            have hfz54_1 := blk_frozen BK129.out 1
                                                            have hfz54_2 := blk_frozen BK129.out 2
                                                            have hfz54_3 := blk_frozen BK129.out 3
                                                            have hfz54_4 := blk_frozen BK129.out 4
                                                            have hfz54_5 := blk_frozen BK129.out 5
                                                            have hfz54_6 := blk_frozen BK129.out 6
                                                            have hfz54_7 := blk_frozen BK129.out 7
                                                            have p151 : 0 ≤ (x3_1 : Int) := of_decide_eq_true (by first | (with_reducible assumption) | assumption)
                                                            have q151 : x3_1 < (l0_0.length : Int) := of_decide_eq_true (by first | (with_reducible assumption) | assumption)
                                                            obtain ⟨ad151, e151, hx151_0⟩ := Kd.at_string HR0_0.out x3_1 p151 q151
                                                            obtain rfl : ad132 = ad151 := (by injection e151)
                                                            replace hx151_0 := (HB.out.cell (World.block_lt_of_cell? w _ hx151_0)).trans hx151_0
                                                            replace p151 := eq_true p151
                                                            replace q151 := eq_true q151
                                                            go_wp2_with (first | ((with_reducible refine gate_callee (f := 15) rfl ?_); refine goesL_ (some 92) rfl rfl Tryd.func15 (by kernel_rfl) rfl #[.string (rdOf ByteArray.empty l0_0 x3_1)] rfl (by (try simp only [List.map_toArray, List.map_cons, List.map_nil]); first | done | rfl | (simp only [List.length_drop, List.length_take]; rfl)) ?_; (with_reducible refine (quillref1_May.calls k5 (rdOf ByteArray.empty l0_0 x3_1) true _ ?side1 A48.out).mono ?_); (case side1 => repeat (first | exact HT.out | exact T_below HT.out HB.out | (with_reducible refine T_alloc ?_ _) | (with_reducible refine T_drewN ?_ _) | (with_reducible refine T_drew ?_) | exact T_below HT.out (by repeat (first | (with_reducible first | exact HB.out | apply below_alloc | apply pw_below_drewN | apply below_drew1 | refine below_set ?_ GE129.out) | exact HB.out)))); rintro e w55 ⟨rfl, hb⟩; refine ⟨_, rfl, ?_⟩; have n0_ := Aside0.mk (Kd.R_below (by (with_reducible repeat (first | apply Kd.R_alloc | apply Kd.R_drewN | apply Kd.R_drew)); exact HO_4.out) hb); have n1_ := Aside0.mk (Kd.R_below (by (with_reducible repeat (first | apply Kd.R_alloc | apply Kd.R_drewN | apply Kd.R_drew)); exact HO_5.out) hb); have n2_ := Aside0.mk (Kd.R_below (by (with_reducible repeat (first | apply Kd.R_alloc | apply Kd.R_drewN | apply Kd.R_drew)); exact HO_6.out) hb); have n3_ := Aside0.mk (Kd.R_below (by (with_reducible repeat (first | apply Kd.R_alloc | apply Kd.R_drewN | apply Kd.R_drew)); exact HO_9.out) hb); have n4_ := Aside0.mk (blk_below (g := gb129) (o := .cells #[.slice (some ad132) l0_0.length c0_0, .int .i64 a0_1, .int .i64 a0_2, .int .i64 a0_3, .int .i64 a0_4, .int .i64 a0_5, .int .i64 a0_6, .int .i64 a0_7] 50 (0, 0)) (by (with_reducible repeat (first | refine blk_drewN ?_ _ | refine blk_drew ?_ | refine blk_alloc ?_ _)); exact BK129.out) hb); have n5_ := Aside0.mk (below_step (by repeat (first | (with_reducible first | exact HB.out | apply below_alloc | apply pw_below_drewN | apply below_drew1 | refine below_set ?_ GE129.out) | exact HB.out)) hb); clear HO_4; clear HO_5; clear HO_6; clear HO_9; clear BK129; clear HB; have HO_4 := n0_; have HO_5 := n1_; have HO_6 := n2_; have HO_9 := n3_; have BK129 := n4_; have HB := n5_; clear n0_ n1_ n2_ n3_ n4_ n5_; (try clear hb); (try clear hb2); (try clear hk); (try clear hi); have p153 : 0 ≤ (x8_4 : Int) := of_decide_eq_true (by first | (with_reducible assumption) | assumption); have q153 : x8_4 < (t136.length : Int) := of_decide_eq_true (by first | (with_reducible assumption) | assumption); obtain ⟨ad153, e153, hx153_0⟩ := Kd.at_int (Kd.R_reads' HO_5.out).2.2 x8_4 p153 q153; obtain rfl : ad146 = ad153 := (by injection e153); replace p153 := eq_true p153; replace q153 := eq_true q153) | (go_at_call 22; (with_reducible refine (quillref0_Num.calls (rd t136 x8_4) (t133.length : Int) true _ A50.out).mono ?_); rintro e w' ⟨rfl, ⟨nd, rfl⟩⟩; have p155 : 0 ≤ (x7_3 : Int) := of_decide_eq_true (by first | (with_reducible assumption) | assumption); have q155 : x7_3 < (y139.length : Int) := of_decide_eq_true (by first | (with_reducible assumption) | assumption); obtain ⟨ad155, e155, hx155_0⟩ := Kd.at_int (Kd.R_reads' HO_6.out).2.2 x7_3 p155 q155; obtain rfl : ad147 = ad155 := (by injection e155); replace p155 := eq_true p155; replace q155 := eq_true q155; have p156 : 0 ≤ (x10_5 : Int) := of_decide_eq_true (by first | (with_reducible assumption) | assumption); have q156 : x10_5 < (y142.length : Int) := of_decide_eq_true (by first | (with_reducible assumption) | assumption); obtain ⟨ad156, e156, hx156_0⟩ := Kd.at_int (Kd.R_reads' HO_9.out).2.2 x10_5 p156 q156; obtain rfl : ad148 = ad156 := (by injection e156); replace p156 := eq_true p156; replace q156 := eq_true q156) | (go_at_call 36; (with_reducible refine (quillref0_Between.calls (rd y142 x10_5) 1 999 t157 _ A53.out).mono ?_); rintro e w' ⟨rfl, ⟨nd, rfl⟩⟩))
                                                            go_meet
                                                            case rel => exact ⟨_, (t157), (by first | rfl | (simp; done) | (simp [*]; done)), H', ⟨by have := HK1.out; have := HJ9.out; have := HK3.out; have := HK4.out; have := HK5.out; first | omega | exact Nat.le_refl _⟩, ⟨by (with_reducible repeat (first | apply Kd.R_alloc | apply Kd.R_drewN | apply Kd.R_drew)); exact HO_4.out⟩, ⟨by (with_reducible repeat (first | apply Kd.R_alloc | apply Kd.R_drewN | apply Kd.R_drew)); exact HO_5.out⟩, ⟨by (with_reducible repeat (first | apply Kd.R_alloc | apply Kd.R_drewN | apply Kd.R_drew)); exact HO_6.out⟩, ⟨by (with_reducible repeat (first | apply Kd.R_alloc | apply Kd.R_drewN | apply Kd.R_drew)); exact HO_9.out⟩, ⟨by (with_reducible repeat (first | refine blk_drewN ?_ _ | refine blk_drew ?_ | refine blk_alloc ?_ _)); exact BK129.out⟩, ⟨by repeat (first | (with_reducible first | exact HB.out | apply below_alloc | apply pw_below_drewN | apply below_drew1 | refine below_set ?_ GE129.out) | exact HB.out)⟩⟩
                                                          · rw [if_neg c52] at H
                                                            have c52b0 : ((rd y139 x7_3) == 123) = false := beq_eq_false_iff_ne.mpr c52
                                                            have c52b1 : ((rd y139 x7_3) != 123) = true := bne_iff_ne.mpr c52
                                                            (first | rw [c52b0] | (simp only [i64_w, i32_w]; rw [c52b0]) | skip)
                                                            by_cases c56 : (rd y139 x7_3) = 125
                                                            · rw [if_pos c56] at H
                                                              have c56b0 : ((rd y139 x7_3) == 125) = true := beq_iff_eq.mpr c56
                                                              have c56b1 : ((rd y139 x7_3) != 125) = false := bne_eq_false_iff_eq.mpr c56
                                                              clear c56
                                                              replace H := Option.bind_eq_some_iff.mp H
                                                              obtain ⟨t160, A570, H⟩ := H
                                                              replace H : (quilllaw13_ParasMove.j5 k5 x3_1 t133 t136 y139 x7_3 x8_4 y142 x10_5 t149 t150 1 0 t160 l0_0 a0_1 a0_2 a0_3 a0_4 a0_5 a0_6 a0_7) = some r := H
                                                              have A57 := Aside0.mk A570
                                                              clear A570
                                                              have H' := Aside0.mk H
                                                              clear H
                                                              have hcz58_0 : w47.cell? ⟨gb129, 0, none⟩ = some (.slice (some ad132) l0_0.length c0_0) := (blk_cell BK129.out 0).trans rfl
                                                              have hcz58_1 : w47.cell? ⟨gb129, 1, none⟩ = some (.int .i64 a0_1) := (blk_cell BK129.out 1).trans rfl
                                                              have hcz58_2 : w47.cell? ⟨gb129, 2, none⟩ = some (.int .i64 a0_2) := (blk_cell BK129.out 2).trans rfl
                                                              have hcz58_3 : w47.cell? ⟨gb129, 3, none⟩ = some (.int .i64 a0_3) := (blk_cell BK129.out 3).trans rfl
                                                              have hcz58_4 : w47.cell? ⟨gb129, 4, none⟩ = some (.int .i64 a0_4) := (blk_cell BK129.out 4).trans rfl
                                                              have hcz58_5 : w47.cell? ⟨gb129, 5, none⟩ = some (.int .i64 a0_5) := (blk_cell BK129.out 5).trans rfl
                                                              have hcz58_6 : w47.cell? ⟨gb129, 6, none⟩ = some (.int .i64 a0_6) := (blk_cell BK129.out 6).trans rfl
                                                              have hcz58_7 : w47.cell? ⟨gb129, 7, none⟩ = some (.int .i64 a0_7) := (blk_cell BK129.out 7).trans rfl
                                                              have hfz58_0 := blk_frozen BK129.out 0
                                                              have hfz58_1 := blk_frozen BK129.out 1
                                                              have hfz58_2 := blk_frozen BK129.out 2
                                                              have hfz58_3 := blk_frozen BK129.out 3
                                                              have hfz58_4 := blk_frozen BK129.out 4
                                                              have hfz58_5 := blk_frozen BK129.out 5
                                                              have hfz58_6 := blk_frozen BK129.out 6
                                                              have hfz58_7 := blk_frozen BK129.out 7
                                                              have p151 : 0 ≤ (x3_1 : Int) := of_decide_eq_true (by first | (with_reducible assumption) | assumption)
                                                              have q151 : x3_1 < (l0_0.length : Int) := of_decide_eq_true (by first | (with_reducible assumption) | assumption)
                                                              obtain ⟨ad151, e151, hx151_0⟩ := Kd.at_string HR0_0.out x3_1 p151 q151
                                                              obtain rfl : ad132 = ad151 := (by injection e151)
                                                              replace hx151_0 := (HB.out.cell (World.block_lt_of_cell? w _ hx151_0)).trans hx151_0
                                                              replace p151 := eq_true p151
                                                              replace q151 := eq_true q151
                                                              go_wp2_with (first | ((with_reducible refine gate_callee (f := 15) rfl ?_); refine goesL_ (some 92) rfl rfl Tryd.func15 (by kernel_rfl) rfl #[.string (rdOf ByteArray.empty l0_0 x3_1)] rfl (by (try simp only [List.map_toArray, List.map_cons, List.map_nil]); first | done | rfl | (simp only [List.length_drop, List.length_take]; rfl)) ?_; (with_reducible refine (quillref1_May.calls k5 (rdOf ByteArray.empty l0_0 x3_1) true _ ?side1 A48.out).mono ?_); (case side1 => repeat (first | exact HT.out | exact T_below HT.out HB.out | (with_reducible refine T_alloc ?_ _) | (with_reducible refine T_drewN ?_ _) | (with_reducible refine T_drew ?_) | exact T_below HT.out (by repeat (first | (with_reducible first | exact HB.out | apply below_alloc | apply pw_below_drewN | apply below_drew1 | refine below_set ?_ GE129.out) | exact HB.out)))); rintro e w59 ⟨rfl, hb⟩; refine ⟨_, rfl, ?_⟩; have n0_ := Aside0.mk (Kd.R_below (by (with_reducible repeat (first | apply Kd.R_alloc | apply Kd.R_drewN | apply Kd.R_drew)); exact HO_4.out) hb); have n1_ := Aside0.mk (Kd.R_below (by (with_reducible repeat (first | apply Kd.R_alloc | apply Kd.R_drewN | apply Kd.R_drew)); exact HO_5.out) hb); have n2_ := Aside0.mk (Kd.R_below (by (with_reducible repeat (first | apply Kd.R_alloc | apply Kd.R_drewN | apply Kd.R_drew)); exact HO_6.out) hb); have n3_ := Aside0.mk (Kd.R_below (by (with_reducible repeat (first | apply Kd.R_alloc | apply Kd.R_drewN | apply Kd.R_drew)); exact HO_9.out) hb); have n4_ := Aside0.mk (blk_below (g := gb129) (o := .cells #[.slice (some ad132) l0_0.length c0_0, .int .i64 a0_1, .int .i64 a0_2, .int .i64 a0_3, .int .i64 a0_4, .int .i64 a0_5, .int .i64 a0_6, .int .i64 a0_7] 50 (0, 0)) (by (with_reducible repeat (first | refine blk_drewN ?_ _ | refine blk_drew ?_ | refine blk_alloc ?_ _)); exact BK129.out) hb); have n5_ := Aside0.mk (below_step (by repeat (first | (with_reducible first | exact HB.out | apply below_alloc | apply pw_below_drewN | apply below_drew1 | refine below_set ?_ GE129.out) | exact HB.out)) hb); clear HO_4; clear HO_5; clear HO_6; clear HO_9; clear BK129; clear HB; have HO_4 := n0_; have HO_5 := n1_; have HO_6 := n2_; have HO_9 := n3_; have BK129 := n4_; have HB := n5_; clear n0_ n1_ n2_ n3_ n4_ n5_; (try clear hb); (try clear hb2); (try clear hk); (try clear hi); have p153 : 0 ≤ (x8_4 : Int) := of_decide_eq_true (by first | (with_reducible assumption) | assumption); have q153 : x8_4 < (t136.length : Int) := of_decide_eq_true (by first | (with_reducible assumption) | assumption); obtain ⟨ad153, e153, hx153_0⟩ := Kd.at_int (Kd.R_reads' HO_5.out).2.2 x8_4 p153 q153; obtain rfl : ad146 = ad153 := (by injection e153); replace p153 := eq_true p153; replace q153 := eq_true q153) | (go_at_call 22; (with_reducible refine (quillref0_Num.calls (rd t136 x8_4) (t133.length : Int) true _ A50.out).mono ?_); rintro e w' ⟨rfl, ⟨nd, rfl⟩⟩; have p155 : 0 ≤ (x7_3 : Int) := of_decide_eq_true (by first | (with_reducible assumption) | assumption); have q155 : x7_3 < (y139.length : Int) := of_decide_eq_true (by first | (with_reducible assumption) | assumption); obtain ⟨ad155, e155, hx155_0⟩ := Kd.at_int (Kd.R_reads' HO_6.out).2.2 x7_3 p155 q155; obtain rfl : ad147 = ad155 := (by injection e155); replace p155 := eq_true p155; replace q155 := eq_true q155; have p158 : 0 ≤ (x7_3 : Int) := of_decide_eq_true (by first | (with_reducible assumption) | assumption); have q158 : x7_3 < (y139.length : Int) := of_decide_eq_true (by first | (with_reducible assumption) | assumption); obtain ⟨ad158, e158, hx158_0⟩ := Kd.at_int (Kd.R_reads' HO_6.out).2.2 x7_3 p158 q158; obtain rfl : ad147 = ad158 := (by injection e158); replace p158 := eq_true p158; replace q158 := eq_true q158; have p159 : 0 ≤ (x10_5 : Int) := of_decide_eq_true (by first | (with_reducible assumption) | assumption); have q159 : x10_5 < (y142.length : Int) := of_decide_eq_true (by first | (with_reducible assumption) | assumption); obtain ⟨ad159, e159, hx159_0⟩ := Kd.at_int (Kd.R_reads' HO_9.out).2.2 x10_5 p159 q159; obtain rfl : ad148 = ad159 := (by injection e159); replace p159 := eq_true p159; replace q159 := eq_true q159) | (go_at_call 36; (with_reducible refine (quillref0_Between.calls (rd y142 x10_5) 1 999 t160 _ A57.out).mono ?_); rintro e w' ⟨rfl, ⟨nd, rfl⟩⟩))
                                                              go_meet
                                                              case rel => exact ⟨_, (t160), (by first | rfl | (simp; done) | (simp [*]; done)), H', ⟨by have := HK1.out; have := HJ9.out; have := HK3.out; have := HK4.out; have := HK5.out; first | omega | exact Nat.le_refl _⟩, ⟨by (with_reducible repeat (first | apply Kd.R_alloc | apply Kd.R_drewN | apply Kd.R_drew)); exact HO_4.out⟩, ⟨by (with_reducible repeat (first | apply Kd.R_alloc | apply Kd.R_drewN | apply Kd.R_drew)); exact HO_5.out⟩, ⟨by (with_reducible repeat (first | apply Kd.R_alloc | apply Kd.R_drewN | apply Kd.R_drew)); exact HO_6.out⟩, ⟨by (with_reducible repeat (first | apply Kd.R_alloc | apply Kd.R_drewN | apply Kd.R_drew)); exact HO_9.out⟩, ⟨by (with_reducible repeat (first | refine blk_drewN ?_ _ | refine blk_drew ?_ | refine blk_alloc ?_ _)); exact BK129.out⟩, ⟨by repeat (first | (with_reducible first | exact HB.out | apply below_alloc | apply pw_below_drewN | apply below_drew1 | refine below_set ?_ GE129.out) | exact HB.out)⟩⟩
                                                            · rw [if_neg c56] at H
                                                              have c56b0 : ((rd y139 x7_3) == 125) = false := beq_eq_false_iff_ne.mpr c56
                                                              have c56b1 : ((rd y139 x7_3) != 125) = true := bne_iff_ne.mpr c56
                                                              have H' := Aside0.mk H
                                                              clear H
                                                              have hcz60_0 : w47.cell? ⟨gb129, 0, none⟩ = some (.slice (some ad132) l0_0.length c0_0) := (blk_cell BK129.out 0).trans rfl
                                                              have hcz60_1 : w47.cell? ⟨gb129, 1, none⟩ = some (.int .i64 a0_1) := (blk_cell BK129.out 1).trans rfl
                                                              have hcz60_2 : w47.cell? ⟨gb129, 2, none⟩ = some (.int .i64 a0_2) := (blk_cell BK129.out 2).trans rfl
                                                              have hcz60_3 : w47.cell? ⟨gb129, 3, none⟩ = some (.int .i64 a0_3) := (blk_cell BK129.out 3).trans rfl
                                                              have hcz60_4 : w47.cell? ⟨gb129, 4, none⟩ = some (.int .i64 a0_4) := (blk_cell BK129.out 4).trans rfl
                                                              have hcz60_5 : w47.cell? ⟨gb129, 5, none⟩ = some (.int .i64 a0_5) := (blk_cell BK129.out 5).trans rfl
                                                              have hcz60_6 : w47.cell? ⟨gb129, 6, none⟩ = some (.int .i64 a0_6) := (blk_cell BK129.out 6).trans rfl
                                                              have hcz60_7 : w47.cell? ⟨gb129, 7, none⟩ = some (.int .i64 a0_7) := (blk_cell BK129.out 7).trans rfl
                                                              have hfz60_0 := blk_frozen BK129.out 0
                                                              have hfz60_1 := blk_frozen BK129.out 1
                                                              have hfz60_2 := blk_frozen BK129.out 2
                                                              have hfz60_3 := blk_frozen BK129.out 3
                                                              have hfz60_4 := blk_frozen BK129.out 4
                                                              have hfz60_5 := blk_frozen BK129.out 5
                                                              have hfz60_6 := blk_frozen BK129.out 6
                                                              have hfz60_7 := blk_frozen BK129.out 7
                                                              have p151 : 0 ≤ (x3_1 : Int) := of_decide_eq_true (by first | (with_reducible assumption) | assumption)
                                                              have q151 : x3_1 < (l0_0.length : Int) := of_decide_eq_true (by first | (with_reducible assumption) | assumption)
                                                              obtain ⟨ad151, e151, hx151_0⟩ := Kd.at_string HR0_0.out x3_1 p151 q151
                                                              obtain rfl : ad132 = ad151 := (by injection e151)
                                                              replace hx151_0 := (HB.out.cell (World.block_lt_of_cell? w _ hx151_0)).trans hx151_0
                                                              replace p151 := eq_true p151
                                                              replace q151 := eq_true q151
                                                              go_wp2_with (first | ((with_reducible refine gate_callee (f := 15) rfl ?_); refine goesL_ (some 92) rfl rfl Tryd.func15 (by kernel_rfl) rfl #[.string (rdOf ByteArray.empty l0_0 x3_1)] rfl (by (try simp only [List.map_toArray, List.map_cons, List.map_nil]); first | done | rfl | (simp only [List.length_drop, List.length_take]; rfl)) ?_; (with_reducible refine (quillref1_May.calls k5 (rdOf ByteArray.empty l0_0 x3_1) true _ ?side1 A48.out).mono ?_); (case side1 => repeat (first | exact HT.out | exact T_below HT.out HB.out | (with_reducible refine T_alloc ?_ _) | (with_reducible refine T_drewN ?_ _) | (with_reducible refine T_drew ?_) | exact T_below HT.out (by repeat (first | (with_reducible first | exact HB.out | apply below_alloc | apply pw_below_drewN | apply below_drew1 | refine below_set ?_ GE129.out) | exact HB.out)))); rintro e w61 ⟨rfl, hb⟩; refine ⟨_, rfl, ?_⟩; have n0_ := Aside0.mk (Kd.R_below (by (with_reducible repeat (first | apply Kd.R_alloc | apply Kd.R_drewN | apply Kd.R_drew)); exact HO_4.out) hb); have n1_ := Aside0.mk (Kd.R_below (by (with_reducible repeat (first | apply Kd.R_alloc | apply Kd.R_drewN | apply Kd.R_drew)); exact HO_5.out) hb); have n2_ := Aside0.mk (Kd.R_below (by (with_reducible repeat (first | apply Kd.R_alloc | apply Kd.R_drewN | apply Kd.R_drew)); exact HO_6.out) hb); have n3_ := Aside0.mk (Kd.R_below (by (with_reducible repeat (first | apply Kd.R_alloc | apply Kd.R_drewN | apply Kd.R_drew)); exact HO_9.out) hb); have n4_ := Aside0.mk (blk_below (g := gb129) (o := .cells #[.slice (some ad132) l0_0.length c0_0, .int .i64 a0_1, .int .i64 a0_2, .int .i64 a0_3, .int .i64 a0_4, .int .i64 a0_5, .int .i64 a0_6, .int .i64 a0_7] 50 (0, 0)) (by (with_reducible repeat (first | refine blk_drewN ?_ _ | refine blk_drew ?_ | refine blk_alloc ?_ _)); exact BK129.out) hb); have n5_ := Aside0.mk (below_step (by repeat (first | (with_reducible first | exact HB.out | apply below_alloc | apply pw_below_drewN | apply below_drew1 | refine below_set ?_ GE129.out) | exact HB.out)) hb); clear HO_4; clear HO_5; clear HO_6; clear HO_9; clear BK129; clear HB; have HO_4 := n0_; have HO_5 := n1_; have HO_6 := n2_; have HO_9 := n3_; have BK129 := n4_; have HB := n5_; clear n0_ n1_ n2_ n3_ n4_ n5_; (try clear hb); (try clear hb2); (try clear hk); (try clear hi); have p153 : 0 ≤ (x8_4 : Int) := of_decide_eq_true (by first | (with_reducible assumption) | assumption); have q153 : x8_4 < (t136.length : Int) := of_decide_eq_true (by first | (with_reducible assumption) | assumption); obtain ⟨ad153, e153, hx153_0⟩ := Kd.at_int (Kd.R_reads' HO_5.out).2.2 x8_4 p153 q153; obtain rfl : ad146 = ad153 := (by injection e153); replace p153 := eq_true p153; replace q153 := eq_true q153) | (go_at_call 22; (with_reducible refine (quillref0_Num.calls (rd t136 x8_4) (t133.length : Int) true _ A50.out).mono ?_); rintro e w' ⟨rfl, ⟨nd, rfl⟩⟩; have p155 : 0 ≤ (x7_3 : Int) := of_decide_eq_true (by first | (with_reducible assumption) | assumption); have q155 : x7_3 < (y139.length : Int) := of_decide_eq_true (by first | (with_reducible assumption) | assumption); obtain ⟨ad155, e155, hx155_0⟩ := Kd.at_int (Kd.R_reads' HO_6.out).2.2 x7_3 p155 q155; obtain rfl : ad147 = ad155 := (by injection e155); replace p155 := eq_true p155; replace q155 := eq_true q155; have p158 : 0 ≤ (x7_3 : Int) := of_decide_eq_true (by first | (with_reducible assumption) | assumption); have q158 : x7_3 < (y139.length : Int) := of_decide_eq_true (by first | (with_reducible assumption) | assumption); obtain ⟨ad158, e158, hx158_0⟩ := Kd.at_int (Kd.R_reads' HO_6.out).2.2 x7_3 p158 q158; obtain rfl : ad147 = ad158 := (by injection e158); replace p158 := eq_true p158; replace q158 := eq_true q158))
                                                              go_meet
                                                              case rel => exact ⟨_, (false), (by first | rfl | (simp; done) | (simp [*]; done)), H', ⟨by have := HK1.out; have := HJ9.out; have := HK3.out; have := HK4.out; have := HK5.out; first | omega | exact Nat.le_refl _⟩, ⟨by (with_reducible repeat (first | apply Kd.R_alloc | apply Kd.R_drewN | apply Kd.R_drew)); exact HO_4.out⟩, ⟨by (with_reducible repeat (first | apply Kd.R_alloc | apply Kd.R_drewN | apply Kd.R_drew)); exact HO_5.out⟩, ⟨by (with_reducible repeat (first | apply Kd.R_alloc | apply Kd.R_drewN | apply Kd.R_drew)); exact HO_6.out⟩, ⟨by (with_reducible repeat (first | apply Kd.R_alloc | apply Kd.R_drewN | apply Kd.R_drew)); exact HO_9.out⟩, ⟨by (with_reducible repeat (first | refine blk_drewN ?_ _ | refine blk_drew ?_ | refine blk_alloc ?_ _)); exact BK129.out⟩, ⟨by repeat (first | (with_reducible first | exact HB.out | apply below_alloc | apply pw_below_drewN | apply below_drew1 | refine below_set ?_ GE129.out) | exact HB.out)⟩⟩
                                                        · replace c51 := Bool.eq_false_iff.mpr c51
                                                          subst c51
                                                          have H1 : (quilllaw13_ParasMove.j5 k5 x3_1 t133 t136 y139 x7_3 x8_4 y142 x10_5 t149 t150 1 0 false l0_0 a0_1 a0_2 a0_3 a0_4 a0_5 a0_6 a0_7) = some r := by rw [if_neg (show ¬ (false = true) by decide)] at H; exact H
                                                          clear H
                                                          have H := H1
                                                          clear H1
                                                          have H' := Aside0.mk H
                                                          clear H
                                                          have hcz62_0 : w47.cell? ⟨gb129, 0, none⟩ = some (.slice (some ad132) l0_0.length c0_0) := (blk_cell BK129.out 0).trans rfl
                                                          have hcz62_1 : w47.cell? ⟨gb129, 1, none⟩ = some (.int .i64 a0_1) := (blk_cell BK129.out 1).trans rfl
                                                          have hcz62_2 : w47.cell? ⟨gb129, 2, none⟩ = some (.int .i64 a0_2) := (blk_cell BK129.out 2).trans rfl
                                                          have hcz62_3 : w47.cell? ⟨gb129, 3, none⟩ = some (.int .i64 a0_3) := (blk_cell BK129.out 3).trans rfl
                                                          have hcz62_4 : w47.cell? ⟨gb129, 4, none⟩ = some (.int .i64 a0_4) := (blk_cell BK129.out 4).trans rfl
                                                          have hcz62_5 : w47.cell? ⟨gb129, 5, none⟩ = some (.int .i64 a0_5) := (blk_cell BK129.out 5).trans rfl
                                                          have hcz62_6 : w47.cell? ⟨gb129, 6, none⟩ = some (.int .i64 a0_6) := (blk_cell BK129.out 6).trans rfl
                                                          have hcz62_7 : w47.cell? ⟨gb129, 7, none⟩ = some (.int .i64 a0_7) := (blk_cell BK129.out 7).trans rfl
                                                          have hfz62_0 := blk_frozen BK129.out 0
                                                          have hfz62_1 := blk_frozen BK129.out 1
                                                          have hfz62_2 := blk_frozen BK129.out 2
                                                          have hfz62_3 := blk_frozen BK129.out 3
                                                          have hfz62_4 := blk_frozen BK129.out 4
                                                          have hfz62_5 := blk_frozen BK129.out 5
                                                          have hfz62_6 := blk_frozen BK129.out 6
                                                          have hfz62_7 := blk_frozen BK129.out 7
                                                          have p151 : 0 ≤ (x3_1 : Int) := of_decide_eq_true (by first | (with_reducible assumption) | assumption)
                                                          have q151 : x3_1 < (l0_0.length : Int) := of_decide_eq_true (by first | (with_reducible assumption) | assumption)
                                                          obtain ⟨ad151, e151, hx151_0⟩ := Kd.at_string HR0_0.out x3_1 p151 q151
                                                          obtain rfl : ad132 = ad151 := (by injection e151)
                                                          replace hx151_0 := (HB.out.cell (World.block_lt_of_cell? w _ hx151_0)).trans hx151_0
                                                          replace p151 := eq_true p151
                                                          replace q151 := eq_true q151
                                                          go_wp2_with (first | ((with_reducible refine gate_callee (f := 15) rfl ?_); refine goesL_ (some 92) rfl rfl Tryd.func15 (by kernel_rfl) rfl #[.string (rdOf ByteArray.empty l0_0 x3_1)] rfl (by (try simp only [List.map_toArray, List.map_cons, List.map_nil]); first | done | rfl | (simp only [List.length_drop, List.length_take]; rfl)) ?_; (with_reducible refine (quillref1_May.calls k5 (rdOf ByteArray.empty l0_0 x3_1) true _ ?side1 A48.out).mono ?_); (case side1 => repeat (first | exact HT.out | exact T_below HT.out HB.out | (with_reducible refine T_alloc ?_ _) | (with_reducible refine T_drewN ?_ _) | (with_reducible refine T_drew ?_) | exact T_below HT.out (by repeat (first | (with_reducible first | exact HB.out | apply below_alloc | apply pw_below_drewN | apply below_drew1 | refine below_set ?_ GE129.out) | exact HB.out)))); rintro e w63 ⟨rfl, hb⟩; refine ⟨_, rfl, ?_⟩; have n0_ := Aside0.mk (Kd.R_below (by (with_reducible repeat (first | apply Kd.R_alloc | apply Kd.R_drewN | apply Kd.R_drew)); exact HO_4.out) hb); have n1_ := Aside0.mk (Kd.R_below (by (with_reducible repeat (first | apply Kd.R_alloc | apply Kd.R_drewN | apply Kd.R_drew)); exact HO_5.out) hb); have n2_ := Aside0.mk (Kd.R_below (by (with_reducible repeat (first | apply Kd.R_alloc | apply Kd.R_drewN | apply Kd.R_drew)); exact HO_6.out) hb); have n3_ := Aside0.mk (Kd.R_below (by (with_reducible repeat (first | apply Kd.R_alloc | apply Kd.R_drewN | apply Kd.R_drew)); exact HO_9.out) hb); have n4_ := Aside0.mk (blk_below (g := gb129) (o := .cells #[.slice (some ad132) l0_0.length c0_0, .int .i64 a0_1, .int .i64 a0_2, .int .i64 a0_3, .int .i64 a0_4, .int .i64 a0_5, .int .i64 a0_6, .int .i64 a0_7] 50 (0, 0)) (by (with_reducible repeat (first | refine blk_drewN ?_ _ | refine blk_drew ?_ | refine blk_alloc ?_ _)); exact BK129.out) hb); have n5_ := Aside0.mk (below_step (by repeat (first | (with_reducible first | exact HB.out | apply below_alloc | apply pw_below_drewN | apply below_drew1 | refine below_set ?_ GE129.out) | exact HB.out)) hb); clear HO_4; clear HO_5; clear HO_6; clear HO_9; clear BK129; clear HB; have HO_4 := n0_; have HO_5 := n1_; have HO_6 := n2_; have HO_9 := n3_; have BK129 := n4_; have HB := n5_; clear n0_ n1_ n2_ n3_ n4_ n5_; (try clear hb); (try clear hb2); (try clear hk); (try clear hi); have p153 : 0 ≤ (x8_4 : Int) := of_decide_eq_true (by first | (with_reducible assumption) | assumption); have q153 : x8_4 < (t136.length : Int) := of_decide_eq_true (by first | (with_reducible assumption) | assumption); obtain ⟨ad153, e153, hx153_0⟩ := Kd.at_int (Kd.R_reads' HO_5.out).2.2 x8_4 p153 q153; obtain rfl : ad146 = ad153 := (by injection e153); replace p153 := eq_true p153; replace q153 := eq_true q153) | (go_at_call 22; (with_reducible refine (quillref0_Num.calls (rd t136 x8_4) (t133.length : Int) false _ A50.out).mono ?_); rintro e w' ⟨rfl, ⟨nd, rfl⟩⟩))
                                                          go_meet
                                                          case rel => exact ⟨_, (false), (by first | rfl | (simp; done) | (simp [*]; done)), H', ⟨by have := HK1.out; have := HJ9.out; have := HK3.out; have := HK4.out; have := HK5.out; first | omega | exact Nat.le_refl _⟩, ⟨by (with_reducible repeat (first | apply Kd.R_alloc | apply Kd.R_drewN | apply Kd.R_drew)); exact HO_4.out⟩, ⟨by (with_reducible repeat (first | apply Kd.R_alloc | apply Kd.R_drewN | apply Kd.R_drew)); exact HO_5.out⟩, ⟨by (with_reducible repeat (first | apply Kd.R_alloc | apply Kd.R_drewN | apply Kd.R_drew)); exact HO_6.out⟩, ⟨by (with_reducible repeat (first | apply Kd.R_alloc | apply Kd.R_drewN | apply Kd.R_drew)); exact HO_9.out⟩, ⟨by (with_reducible repeat (first | refine blk_drewN ?_ _ | refine blk_drew ?_ | refine blk_alloc ?_ _)); exact BK129.out⟩, ⟨by repeat (first | (with_reducible first | exact HB.out | apply below_alloc | apply pw_below_drewN | apply below_drew1 | refine below_set ?_ GE129.out) | exact HB.out)⟩⟩
                                                      · replace c49 := Bool.eq_false_iff.mpr c49
                                                        subst c49
                                                        have H1 : (quilllaw13_ParasMove.j5 k5 x3_1 t133 t136 y139 x7_3 x8_4 y142 x10_5 t149 t150 1 0 false l0_0 a0_1 a0_2 a0_3 a0_4 a0_5 a0_6 a0_7) = some r := by rw [if_neg (show ¬ (false = true) by decide)] at H; exact H
                                                        clear H
                                                        have H := H1
                                                        clear H1
                                                        have H' := Aside0.mk H
                                                        clear H
                                                        have hcz64_0 : w47.cell? ⟨gb129, 0, none⟩ = some (.slice (some ad132) l0_0.length c0_0) := (blk_cell BK129.out 0).trans rfl
                                                        have hcz64_1 : w47.cell? ⟨gb129, 1, none⟩ = some (.int .i64 a0_1) := (blk_cell BK129.out 1).trans rfl
                                                        have hcz64_2 : w47.cell? ⟨gb129, 2, none⟩ = some (.int .i64 a0_2) := (blk_cell BK129.out 2).trans rfl
                                                        have hcz64_3 : w47.cell? ⟨gb129, 3, none⟩ = some (.int .i64 a0_3) := (blk_cell BK129.out 3).trans rfl
                                                        have hcz64_4 : w47.cell? ⟨gb129, 4, none⟩ = some (.int .i64 a0_4) := (blk_cell BK129.out 4).trans rfl
                                                        have hcz64_5 : w47.cell? ⟨gb129, 5, none⟩ = some (.int .i64 a0_5) := (blk_cell BK129.out 5).trans rfl
                                                        have hcz64_6 : w47.cell? ⟨gb129, 6, none⟩ = some (.int .i64 a0_6) := (blk_cell BK129.out 6).trans rfl
                                                        have hcz64_7 : w47.cell? ⟨gb129, 7, none⟩ = some (.int .i64 a0_7) := (blk_cell BK129.out 7).trans rfl
                                                        have hfz64_0 := blk_frozen BK129.out 0
                                                        have hfz64_1 := blk_frozen BK129.out 1
                                                        have hfz64_2 := blk_frozen BK129.out 2
                                                        have hfz64_3 := blk_frozen BK129.out 3
                                                        have hfz64_4 := blk_frozen BK129.out 4
                                                        have hfz64_5 := blk_frozen BK129.out 5
                                                        have hfz64_6 := blk_frozen BK129.out 6
                                                        have hfz64_7 := blk_frozen BK129.out 7
                                                        have p151 : 0 ≤ (x3_1 : Int) := of_decide_eq_true (by first | (with_reducible assumption) | assumption)
                                                        have q151 : x3_1 < (l0_0.length : Int) := of_decide_eq_true (by first | (with_reducible assumption) | assumption)
                                                        obtain ⟨ad151, e151, hx151_0⟩ := Kd.at_string HR0_0.out x3_1 p151 q151
                                                        obtain rfl : ad132 = ad151 := (by injection e151)
                                                        replace hx151_0 := (HB.out.cell (World.block_lt_of_cell? w _ hx151_0)).trans hx151_0
                                                        replace p151 := eq_true p151
                                                        replace q151 := eq_true q151
                                                        go_wp2_with (first | ((with_reducible refine gate_callee (f := 15) rfl ?_); refine goesL_ (some 92) rfl rfl Tryd.func15 (by kernel_rfl) rfl #[.string (rdOf ByteArray.empty l0_0 x3_1)] rfl (by (try simp only [List.map_toArray, List.map_cons, List.map_nil]); first | done | rfl | (simp only [List.length_drop, List.length_take]; rfl)) ?_; (with_reducible refine (quillref1_May.calls k5 (rdOf ByteArray.empty l0_0 x3_1) false _ ?side1 A48.out).mono ?_); (case side1 => repeat (first | exact HT.out | exact T_below HT.out HB.out | (with_reducible refine T_alloc ?_ _) | (with_reducible refine T_drewN ?_ _) | (with_reducible refine T_drew ?_) | exact T_below HT.out (by repeat (first | (with_reducible first | exact HB.out | apply below_alloc | apply pw_below_drewN | apply below_drew1 | refine below_set ?_ GE129.out) | exact HB.out)))); rintro e w65 ⟨rfl, hb⟩; refine ⟨_, rfl, ?_⟩; have n0_ := Aside0.mk (Kd.R_below (by (with_reducible repeat (first | apply Kd.R_alloc | apply Kd.R_drewN | apply Kd.R_drew)); exact HO_4.out) hb); have n1_ := Aside0.mk (Kd.R_below (by (with_reducible repeat (first | apply Kd.R_alloc | apply Kd.R_drewN | apply Kd.R_drew)); exact HO_5.out) hb); have n2_ := Aside0.mk (Kd.R_below (by (with_reducible repeat (first | apply Kd.R_alloc | apply Kd.R_drewN | apply Kd.R_drew)); exact HO_6.out) hb); have n3_ := Aside0.mk (Kd.R_below (by (with_reducible repeat (first | apply Kd.R_alloc | apply Kd.R_drewN | apply Kd.R_drew)); exact HO_9.out) hb); have n4_ := Aside0.mk (blk_below (g := gb129) (o := .cells #[.slice (some ad132) l0_0.length c0_0, .int .i64 a0_1, .int .i64 a0_2, .int .i64 a0_3, .int .i64 a0_4, .int .i64 a0_5, .int .i64 a0_6, .int .i64 a0_7] 50 (0, 0)) (by (with_reducible repeat (first | refine blk_drewN ?_ _ | refine blk_drew ?_ | refine blk_alloc ?_ _)); exact BK129.out) hb); have n5_ := Aside0.mk (below_step (by repeat (first | (with_reducible first | exact HB.out | apply below_alloc | apply pw_below_drewN | apply below_drew1 | refine below_set ?_ GE129.out) | exact HB.out)) hb); clear HO_4; clear HO_5; clear HO_6; clear HO_9; clear BK129; clear HB; have HO_4 := n0_; have HO_5 := n1_; have HO_6 := n2_; have HO_9 := n3_; have BK129 := n4_; have HB := n5_; clear n0_ n1_ n2_ n3_ n4_ n5_; (try clear hb); (try clear hb2); (try clear hk); (try clear hi)))
                                                        go_meet
                                                        case rel => exact ⟨_, (false), (by first | rfl | (simp; done) | (simp [*]; done)), H', ⟨by have := HK1.out; have := HJ9.out; have := HK3.out; have := HK4.out; have := HK5.out; first | omega | exact Nat.le_refl _⟩, ⟨by (with_reducible repeat (first | apply Kd.R_alloc | apply Kd.R_drewN | apply Kd.R_drew)); exact HO_4.out⟩, ⟨by (with_reducible repeat (first | apply Kd.R_alloc | apply Kd.R_drewN | apply Kd.R_drew)); exact HO_5.out⟩, ⟨by (with_reducible repeat (first | apply Kd.R_alloc | apply Kd.R_drewN | apply Kd.R_drew)); exact HO_6.out⟩, ⟨by (with_reducible repeat (first | apply Kd.R_alloc | apply Kd.R_drewN | apply Kd.R_drew)); exact HO_9.out⟩, ⟨by (with_reducible repeat (first | refine blk_drewN ?_ _ | refine blk_drew ?_ | refine blk_alloc ?_ _)); exact BK129.out⟩, ⟨by repeat (first | (with_reducible first | exact HB.out | apply below_alloc | apply pw_below_drewN | apply below_drew1 | refine below_set ?_ GE129.out) | exact HB.out)⟩⟩
                                                    case rest =>
                                                      clear HC44
                                                      try clear c1
                                                      try clear p1
                                                      try clear q1
                                                      try clear hx1
                                                      try clear p2
                                                      try clear c3
                                                      try clear c4
                                                      try clear c5
                                                      try clear p13
                                                      try clear q13
                                                      try clear hx13
                                                      try clear p14
                                                      try clear q14
                                                      try clear hx14
                                                      try clear c15
                                                      try clear p15
                                                      try clear q15
                                                      try clear hx15
                                                      try clear c34
                                                      try clear c34b0
                                                      try clear c35
                                                      try clear c35b0
                                                      try clear c36
                                                      try clear c36b0
                                                      try clear c37
                                                      try clear c37b0
                                                      try clear c38
                                                      try clear c38b0
                                                      try clear c39
                                                      try clear c39b0
                                                      try clear c40
                                                      try clear c40b0
                                                      try clear c41
                                                      try clear c41b0
                                                      try clear c42
                                                      try clear c42b0
                                                      try clear c49
                                                      try clear c51
                                                      try clear c52
                                                      try clear c52b0
                                                      try clear c52b1
                                                      try clear c56
                                                      try clear c56b0
                                                      try clear c56b1
                                                      try clear hcz54_0
                                                      try clear hcz54_1
                                                      try clear hcz54_2
                                                      try clear hcz54_3
                                                      try clear hcz54_4
                                                      try clear hcz54_5
                                                      try clear hcz54_6
                                                      try clear hcz54_7
                                                      try clear hcz58_0
                                                      try clear hcz58_1
                                                      try clear hcz58_2
                                                      try clear hcz58_3
                                                      try clear hcz58_4
                                                      try clear hcz58_5
                                                      try clear hcz58_6
                                                      try clear hcz58_7
                                                      try clear hcz60_0
                                                      try clear hcz60_1
                                                      try clear hcz60_2
                                                      try clear hcz60_3
                                                      try clear hcz60_4
                                                      try clear hcz60_5
                                                      try clear hcz60_6
                                                      try clear hcz60_7
                                                      try clear hcz62_0
                                                      try clear hcz62_1
                                                      try clear hcz62_2
                                                      try clear hcz62_3
                                                      try clear hcz62_4
                                                      try clear hcz62_5
                                                      try clear hcz62_6
                                                      try clear hcz62_7
                                                      try clear hcz64_0
                                                      try clear hcz64_1
                                                      try clear hcz64_2
                                                      try clear hcz64_3
                                                      try clear hcz64_4
                                                      try clear hcz64_5
                                                      try clear hcz64_6
                                                      try clear hcz64_7
                                                      try clear hfz12_5
                                                      try clear hfz12_6
                                                      try clear hfz12_7
                                                      try clear hfz13_0
                                                      try clear hfz13_1
                                                      try clear hfz13_2
                                                      try clear hfz13_3
                                                      try clear hfz13_4
                                                      try clear hfz13_5
                                                      try clear hfz13_6
                                                      try clear hfz13_7
                                                      try clear hfz19_0
                                                      try clear hfz19_1
                                                      try clear hfz19_2
                                                      try clear hfz19_3
                                                      try clear hfz19_4
                                                      try clear hfz19_5
                                                      try clear hfz19_6
                                                      try clear hfz19_7
                                                      try clear hfz21_0
                                                      try clear hfz21_1
                                                      try clear hfz21_2
                                                      try clear hfz21_3
                                                      try clear hfz21_4
                                                      try clear hfz21_5
                                                      try clear hfz21_6
                                                      try clear hfz21_7
                                                      try clear hfz24_0
                                                      try clear hfz24_1
                                                      try clear hfz24_2
                                                      try clear hfz24_3
                                                      try clear hfz24_4
                                                      try clear hfz24_5
                                                      try clear hfz24_6
                                                      try clear hfz24_7
                                                      try clear hfz31_0
                                                      try clear hfz31_1
                                                      try clear hfz31_2
                                                      try clear hfz31_3
                                                      try clear hfz31_4
                                                      try clear hfz31_5
                                                      try clear hfz31_6
                                                      try clear hfz31_7
                                                      try clear hfz54_0
                                                      try clear hfz54_1
                                                      try clear hfz54_2
                                                      try clear hfz54_3
                                                      try clear hfz54_4
                                                      try clear hfz54_5
                                                      try clear hfz54_6
                                                      try clear hfz54_7
                                                      try clear hfz58_0
                                                      try clear hfz58_1
                                                      try clear hfz58_2
                                                      try clear hfz58_3
                                                      try clear hfz58_4
                                                      try clear hfz58_5
                                                      try clear hfz58_6
                                                      try clear hfz58_7
                                                      try clear hfz5_0
                                                      try clear hfz5_1
                                                      try clear hfz5_2
                                                      try clear hfz5_3
                                                      try clear hfz5_4
                                                      try clear hfz5_5
                                                      try clear hfz5_6
                                                      try clear hfz5_7
                                                      try clear hfz60_0
                                                      try clear hfz60_1
                                                      try clear hfz60_2
                                                      try clear hfz60_3
                                                      try clear hfz60_4
                                                      try clear hfz60_5
                                                      try clear hfz60_6
                                                      try clear hfz60_7
                                                      try clear hfz62_0
                                                      try clear hfz62_1
                                                      try clear hfz62_2
                                                      try clear hfz62_3
                                                      try clear hfz62_4
                                                      try clear hfz62_5
                                                      try clear hfz62_6
                                                      try clear hfz62_7
                                                      try clear hfz64_0
                                                      try clear hfz64_1
                                                      try clear hfz64_2
                                                      try clear hfz64_3
                                                      try clear hfz64_4
                                                      try clear hfz64_5
                                                      try clear hfz64_6
                                                      try clear hfz64_7
                                                      try clear hfz8_0
                                                      try clear hfz8_1
                                                      try clear hfz8_2
                                                      try clear hfz8_3
                                                      try clear hfz8_4
                                                      try clear hfz8_5
                                                      try clear hfz8_6
                                                      try clear hfz8_7
                                                      try clear hx132_0
                                                      try clear hx145_0
                                                      try clear hx146_0
                                                      try clear hx147_0
                                                      try clear hx148_0
                                                      try clear hx151_0
                                                      try clear hx153_0
                                                      try clear hx155_0
                                                      try clear hx156_0
                                                      try clear hx158_0
                                                      try clear hx159_0
                                                      try clear p1
                                                      try clear p13
                                                      try clear p132
                                                      try clear p145
                                                      try clear p146
                                                      try clear p147
                                                      try clear p148
                                                      try clear p151
                                                      try clear p153
                                                      try clear p155
                                                      try clear p156
                                                      try clear p158
                                                      try clear p159
                                                      try clear p2
                                                      try clear q1
                                                      try clear q13
                                                      try clear q132
                                                      try clear q145
                                                      try clear q146
                                                      try clear q147
                                                      try clear q148
                                                      try clear q151
                                                      try clear q153
                                                      try clear q155
                                                      try clear q156
                                                      try clear q158
                                                      try clear q159
                                                      obtain ⟨kq, x122_43, rfl, HA, HJ43, HO_4, HO_5, HO_6, HO_9, BK129, HB⟩ := hcut
                                                      cases kq with
                                                      | zero => exact absurd HA.out (by simp [quilllaw13_ParasMove.j5])
                                                      | succ kj43 =>
                                                        have H := HA.out
                                                        clear HA
                                                        simp only [quilllaw13_ParasMove.j5] at H
                                                        by_cases c66 : x122_43 = true
                                                        · subst c66
                                                          have H1 : (if 0 ≤ x8_4 then (if x8_4 < (t136.length : Int) then (if 0 ≤ x7_3 then (if x7_3 < (y139.length : Int) then (if 0 ≤ x10_5 then (if x10_5 < (y142.length : Int) then ((quillref12_Paras.f kj43 t133 (rd t136 x8_4) (rd y139 x7_3) (rd y142 x10_5)).bind fun bt164 => ((quilllaw13_num.f t150).bind fun t166 => (if t166 = bt164.2 then (if t149 = bt164.1 then (quilllaw13_ParasMove.l3 kj43 x3_1 t133 t136 y139 x7_3 x8_4 y142 (wrap64 (x10_5 + 1)) l0_0 a0_1 a0_2 a0_3 a0_4 a0_5 a0_6 a0_7) else (some false)) else (some false)))) else (none)) else (none)) else (none)) else (none)) else (none)) else (none)) = some r := by rw [if_pos rfl] at H; exact H
                                                          clear H
                                                          have H := H1
                                                          clear H1
                                                          by_cases c67 : 0 ≤ x8_4
                                                          · rw [if_pos c67] at H
                                                            have c67b0 : decide (0 ≤ x8_4) = true := decide_eq_true c67
                                                            clear c67
                                                            by_cases c68 : x8_4 < (t136.length : Int)
                                                            · rw [if_pos c68] at H
                                                              have c68b0 : decide (x8_4 < (t136.length : Int)) = true := decide_eq_true c68
                                                              clear c68
                                                              by_cases c69 : 0 ≤ x7_3
                                                              · rw [if_pos c69] at H
                                                                have c69b0 : decide (0 ≤ x7_3) = true := decide_eq_true c69
                                                                clear c69
                                                                by_cases c70 : x7_3 < (y139.length : Int)
                                                                · rw [if_pos c70] at H
                                                                  have c70b0 : decide (x7_3 < (y139.length : Int)) = true := decide_eq_true c70
                                                                  clear c70
                                                                  by_cases c71 : 0 ≤ x10_5
                                                                  · rw [if_pos c71] at H
                                                                    have c71b0 : decide (0 ≤ x10_5) = true := decide_eq_true c71
                                                                    clear c71
                                                                    by_cases c72 : x10_5 < (y142.length : Int)
                                                                    · rw [if_pos c72] at H
                                                                      have c72b0 : decide (x10_5 < (y142.length : Int)) = true := decide_eq_true c72
                                                                      clear c72
                                                                      replace H := Option.bind_eq_some_iff.mp H
                                                                      obtain ⟨⟨t164, t165⟩, A730, H⟩ := H
                                                                      replace H : ((quilllaw13_num.f t150).bind fun t166 => (if t166 = t165 then (if t149 = t164 then (quilllaw13_ParasMove.l3 kj43 x3_1 t133 t136 y139 x7_3 x8_4 y142 (wrap64 (x10_5 + 1)) l0_0 a0_1 a0_2 a0_3 a0_4 a0_5 a0_6 a0_7) else (some false)) else (some false))) = some r := H
                                                                      have A73 := Aside0.mk A730
                                                                      clear A730
                                                                      replace H := Option.bind_eq_some_iff.mp H
                                                                      obtain ⟨t166, A740, H⟩ := H
                                                                      replace H : (if t166 = t165 then (if t149 = t164 then (quilllaw13_ParasMove.l3 kj43 x3_1 t133 t136 y139 x7_3 x8_4 y142 (wrap64 (x10_5 + 1)) l0_0 a0_1 a0_2 a0_3 a0_4 a0_5 a0_6 a0_7) else (some false)) else (some false)) = some r := H
                                                                      have A74 := Aside0.mk A740
                                                                      clear A740
                                                                      by_cases c75 : t166 = t165
                                                                      · rw [if_pos c75] at H
                                                                        have c75s := Aside0.mk c75
                                                                        have c75b0 : (t166 == t165) = true := beq_iff_eq.mpr c75
                                                                        have c75b1 : (t166 != t165) = false := bne_eq_false_iff_eq.mpr c75
                                                                        clear c75
                                                                        by_cases c76 : t149 = t164
                                                                        · rw [if_pos c76] at H
                                                                          have c76s := Aside0.mk c76
                                                                          have c76b0 : (t149 == t164) = true := beq_iff_eq.mpr c76
                                                                          have c76b1 : (t149 != t164) = false := bne_eq_false_iff_eq.mpr c76
                                                                          clear c76
                                                                          have H' := Aside0.mk H
                                                                          clear H
                                                                          try go_wp2
                                                                          have n0_ := Aside0.mk (Kd.R_drew HO_4.out)
                                                                          have n1_ := Aside0.mk (Kd.R_drew HO_5.out)
                                                                          have n2_ := Aside0.mk (Kd.R_drew HO_6.out)
                                                                          have n3_ := Aside0.mk (Kd.R_drew HO_9.out)
                                                                          have n4_ := Aside0.mk (blk_drew BK129.out)
                                                                          have n5_ := Aside0.mk (below_drew1 HB.out)
                                                                          clear HO_4
                                                                          clear HO_5
                                                                          clear HO_6
                                                                          clear HO_9
                                                                          clear BK129
                                                                          clear HB
                                                                          have HO_4 := n0_
                                                                          have HO_5 := n1_
                                                                          have HO_6 := n2_
                                                                          have HO_9 := n3_
                                                                          have BK129 := n4_
                                                                          have HB := n5_
                                                                          clear n0_ n1_ n2_ n3_ n4_ n5_
                                                                          have p161 : 0 ≤ (x8_4 : Int) := of_decide_eq_true (by first | (with_reducible assumption) | assumption)
                                                                          have q161 : x8_4 < (t136.length : Int) := of_decide_eq_true (by first | (with_reducible assumption) | assumption)
                                                                          obtain ⟨ad161, e161, hx161_0⟩ := Kd.at_int (Kd.R_reads' HO_5.out).2.2 x8_4 p161 q161
                                                                          obtain rfl : ad146 = ad161 := (by injection e161)
                                                                          replace p161 := eq_true p161
                                                                          replace q161 := eq_true q161
                                                                          have p162 : 0 ≤ (x7_3 : Int) := of_decide_eq_true (by first | (with_reducible assumption) | assumption)
                                                                          have q162 : x7_3 < (y139.length : Int) := of_decide_eq_true (by first | (with_reducible assumption) | assumption)
                                                                          obtain ⟨ad162, e162, hx162_0⟩ := Kd.at_int (Kd.R_reads' HO_6.out).2.2 x7_3 p162 q162
                                                                          obtain rfl : ad147 = ad162 := (by injection e162)
                                                                          replace p162 := eq_true p162
                                                                          replace q162 := eq_true q162
                                                                          have p163 : 0 ≤ (x10_5 : Int) := of_decide_eq_true (by first | (with_reducible assumption) | assumption)
                                                                          have q163 : x10_5 < (y142.length : Int) := of_decide_eq_true (by first | (with_reducible assumption) | assumption)
                                                                          obtain ⟨ad163, e163, hx163_0⟩ := Kd.at_int (Kd.R_reads' HO_9.out).2.2 x10_5 p163 q163
                                                                          obtain rfl : ad148 = ad163 := (by injection e163)
                                                                          replace p163 := eq_true p163
                                                                          replace q163 := eq_true q163
                                                                          refine start_ (n := 19) (S := fun w' => w'.cell? (ad146.add (x8_4).toNat) = some (.int .i64 (rd t136 x8_4)) ∧ w'.cell? (ad147.add (x7_3).toNat) = some (.int .i64 (rd y139 x7_3)) ∧ w'.cell? (ad148.add (x10_5).toNat) = some (.int .i64 (rd y142 x10_5))) (ds := []) #[false, false, false, false, false, false, false, false, false, false, false, false, false, false, false, false, false, false, false] (by kernel_rfl) rfl rfl ⟨hx161_0, hx162_0, hx163_0⟩ (fun hHeld => ?_); refine with_tabW quilllaw13_ParasMove.tab22 quilllaw13_ParasMove.bits22 (fun HT_ HW_ => ?_)
                                                                          generalize wc.drew = w77 at HO_4 HO_5 HO_6 HO_9 BK129 HB hx161_0 hx162_0 hx163_0 hHeld ⊢
                                                                          refine pure_ (i := 0) (N := some 124) (v := ?_) (a' := ?_) #[true, false, false, false, false, false, false, false, false, false, false, false, false, false, false, false, false, false, false] rfl rfl (any_of HT_.out (by kernel_rfl)) (fun _ _ _ h => h) (Or.inl ⟨by rfl, ?_⟩) ?_ ?_
                                                                          rotate_left
                                                                          · intro w'
                                                                            go_simp
                                                                            with_reducible rfl
                                                                          rotate_left
                                                                          · simp only [Act.put, List.setIfInBounds_toArray, List.set_cons_zero, List.set_cons_succ, i64_w, i32_w]
                                                                            rfl
                                                                          refine pure_ (i := 1) (N := some 125) (v := ?_) (a' := ?_) #[true, true, false, false, false, false, false, false, false, false, false, false, false, false, false, false, false, false, false] rfl rfl (any_of HT_.out (by kernel_rfl)) (fun _ _ _ h => h) (Or.inl ⟨by rfl, ?_⟩) ?_ ?_
                                                                          rotate_left
                                                                          · intro w'
                                                                            go_simp
                                                                            with_reducible rfl
                                                                          rotate_left
                                                                          · simp only [Act.put, List.setIfInBounds_toArray, List.set_cons_zero, List.set_cons_succ, i64_w, i32_w]
                                                                            rfl
                                                                          refine pure_ (i := 2) (N := some 126) (v := ?_) (a' := ?_) #[true, true, true, false, false, false, false, false, false, false, false, false, false, false, false, false, false, false, false] rfl rfl (any_of HT_.out (by kernel_rfl)) (fun _ _ _ h => h) (Or.inl ⟨by rfl, ?_⟩) ?_ ?_
                                                                          rotate_left
                                                                          · intro w'
                                                                            go_simp
                                                                            with_reducible rfl
                                                                          rotate_left
                                                                          · simp only [Act.put, List.setIfInBounds_toArray, List.set_cons_zero, List.set_cons_succ, i64_w, i32_w]
                                                                            rfl
                                                                          refine pure_ (i := 3) (N := some 127) (v := ?_) (a' := ?_) #[true, true, true, true, false, false, false, false, false, false, false, false, false, false, false, false, false, false, false] rfl rfl (any_of HT_.out (by kernel_rfl)) (fun _ _ _ h => h) (Or.inl ⟨by rfl, ?_⟩) ?_ ?_
                                                                          rotate_left
                                                                          · intro w'
                                                                            go_simp
                                                                            with_reducible rfl
                                                                          rotate_left
                                                                          · simp only [Act.put, List.setIfInBounds_toArray, List.set_cons_zero, List.set_cons_succ, i64_w, i32_w]
                                                                            rfl
                                                                          refine pure_ (i := 5) (N := some 129) (v := ?_) (a' := ?_) #[true, true, true, true, false, true, false, false, false, false, false, false, false, false, false, false, false, false, false] rfl rfl (any_of HT_.out (by kernel_rfl)) (fun _ _ _ h => h) (Or.inl ⟨by rfl, ?_⟩) ?_ ?_
                                                                          rotate_left
                                                                          · intro w'
                                                                            go_simp
                                                                            with_reducible rfl
                                                                          rotate_left
                                                                          · simp only [Act.put, List.setIfInBounds_toArray, List.set_cons_zero, List.set_cons_succ, i64_w, i32_w]
                                                                            rfl
                                                                          refine pure_ (i := 6) (N := some 130) (v := ?_) (a' := ?_) #[true, true, true, true, false, true, true, false, false, false, false, false, false, false, false, false, false, false, false] rfl rfl (any_of HT_.out (by kernel_rfl)) (fun _ _ _ h => h) (Or.inl ⟨by rfl, ?_⟩) ?_ ?_
                                                                          rotate_left
                                                                          · intro w'
                                                                            go_simp
                                                                            with_reducible rfl
                                                                          rotate_left
                                                                          · simp only [Act.put, List.setIfInBounds_toArray, List.set_cons_zero, List.set_cons_succ, i64_w, i32_w]
                                                                            rfl
                                                                          refine pure_ (i := 7) (N := some 131) (v := ?_) (a' := ?_) #[true, true, true, true, false, true, true, true, false, false, false, false, false, false, false, false, false, false, false] rfl rfl (any_of HT_.out (by kernel_rfl)) (fun _ _ _ h => h) (Or.inl ⟨by rfl, ?_⟩) ?_ ?_
                                                                          rotate_left
                                                                          · intro w'
                                                                            go_simp
                                                                            with_reducible rfl
                                                                          rotate_left
                                                                          · simp only [Act.put, List.setIfInBounds_toArray, List.set_cons_zero, List.set_cons_succ, i64_w, i32_w]
                                                                            rfl
                                                                          refine pure_ (i := 9) (N := some 133) (v := ?_) (a' := ?_) #[true, true, true, true, false, true, true, true, false, true, false, false, false, false, false, false, false, false, false] rfl rfl (any_of HT_.out (by kernel_rfl)) (fun _ _ _ h => h) (Or.inl ⟨by rfl, ?_⟩) ?_ ?_
                                                                          rotate_left
                                                                          · intro w'
                                                                            go_simp
                                                                            with_reducible rfl
                                                                          rotate_left
                                                                          · simp only [Act.put, List.setIfInBounds_toArray, List.set_cons_zero, List.set_cons_succ, i64_w, i32_w]
                                                                            rfl
                                                                          refine pure_ (i := 10) (N := some 134) (v := ?_) (a' := ?_) #[true, true, true, true, false, true, true, true, false, true, true, false, false, false, false, false, false, false, false] rfl rfl (any_of HT_.out (by kernel_rfl)) (fun _ _ _ h => h) (Or.inl ⟨by rfl, ?_⟩) ?_ ?_
                                                                          rotate_left
                                                                          · intro w'
                                                                            go_simp
                                                                            with_reducible rfl
                                                                          rotate_left
                                                                          · simp only [Act.put, List.setIfInBounds_toArray, List.set_cons_zero, List.set_cons_succ, i64_w, i32_w]
                                                                            rfl
                                                                          refine pure_ (i := 11) (N := some 135) (v := ?_) (a' := ?_) #[true, true, true, true, false, true, true, true, false, true, true, true, false, false, false, false, false, false, false] rfl rfl (any_of HT_.out (by kernel_rfl)) (fun _ _ _ h => h) (Or.inl ⟨by rfl, ?_⟩) ?_ ?_
                                                                          rotate_left
                                                                          · intro w'
                                                                            go_simp
                                                                            with_reducible rfl
                                                                          rotate_left
                                                                          · simp only [Act.put, List.setIfInBounds_toArray, List.set_cons_zero, List.set_cons_succ, i64_w, i32_w]
                                                                            rfl
                                                                          refine take_ (i := 4) (N := some 128) (v := ?_) (a' := ?_) #[true, true, true, true, true, true, true, true, false, true, true, true, false, false, false, false, false, false, false] rfl rfl (take_ofW HT_.out HW_.out (by kernel_rfl)) (fun _ _ _ h => h) (Or.inl ⟨by rfl, ?_⟩) hHeld ?_ ?_
                                                                          rotate_left
                                                                          · rintro w' ⟨s0, s1, s2⟩
                                                                            go_simp
                                                                            with_reducible rfl
                                                                          rotate_left
                                                                          · simp only [Act.put, List.setIfInBounds_toArray, List.set_cons_zero, List.set_cons_succ, i64_w, i32_w]
                                                                            rfl
                                                                          refine take_ (i := 8) (N := some 132) (v := ?_) (a' := ?_) #[true, true, true, true, true, true, true, true, true, true, true, true, false, false, false, false, false, false, false] rfl rfl (take_ofW HT_.out HW_.out (by kernel_rfl)) (fun _ _ _ h => h) (Or.inl ⟨by rfl, ?_⟩) hHeld ?_ ?_
                                                                          rotate_left
                                                                          · rintro w' ⟨s0, s1, s2⟩
                                                                            go_simp
                                                                            with_reducible rfl
                                                                          rotate_left
                                                                          · simp only [Act.put, List.setIfInBounds_toArray, List.set_cons_zero, List.set_cons_succ, i64_w, i32_w]
                                                                            rfl
                                                                          refine take_ (i := 12) (N := some 136) (v := ?_) (a' := ?_) #[true, true, true, true, true, true, true, true, true, true, true, true, true, false, false, false, false, false, false] rfl rfl (take_ofW HT_.out HW_.out (by kernel_rfl)) (fun _ _ _ h => h) (Or.inl ⟨by rfl, ?_⟩) hHeld ?_ ?_
                                                                          rotate_left
                                                                          · rintro w' ⟨s0, s1, s2⟩
                                                                            go_simp
                                                                            with_reducible rfl
                                                                          rotate_left
                                                                          · simp only [Act.put, List.setIfInBounds_toArray, List.set_cons_zero, List.set_cons_succ, i64_w, i32_w]
                                                                            rfl
                                                                          refine one_ (i := 13) (N := some 137) #[true, true, true, true, true, true, true, true, true, true, true, true, true, true, false, false, false, false, false] rfl rfl (one_of HT_.out (by kernel_rfl)) (by decide) (fun K hK => ?_)
                                                                          refine goes_ Tryd.func37 (by kernel_rfl) rfl #[.slice Ao22 t133.length co22, .int .i64 (rd t136 x8_4), .int .i64 (rd y139 x7_3), .int .i64 (rd y142 x10_5)] (by rfl) rfl rfl (by (try simp only [List.map_toArray, List.map_cons, List.map_nil]); first | done | rfl | (simp only [List.length_drop, List.length_take]; rfl)) ?_
                                                                          with_reducible refine (quillref12_Paras.calls kj43 _ _ t133 (rd t136 x8_4) (rd y139 x7_3) (rd y142 x10_5) t164 t165 _ ?side1 ?side2 A73.out).mono ?_
                                                                          (case side1 => repeat (first | exact (Kd.R_reads' HO_4.out).2.2 | (with_reducible refine Kd.C_alloc ?_ _) | (with_reducible refine Kd.C_drewN ?_ _) | (with_reducible refine Kd.C_drew ?_)))
                                                                          (case side2 => exact (Kd.R_reads' HO_4.out).2.1)
                                                                          rintro e w' ⟨rfl, ⟨nd, rfl⟩⟩
                                                                          refine ⟨_, rfl, ?_⟩
                                                                          refine hK.out _ _ ⟨hHeld.1, hHeld.2.1, hHeld.2.2⟩ (fun hHeld => ?_)
                                                                          clear hK K
                                                                          refine norm_ (a' := ?_) ?_ ?_
                                                                          rotate_left
                                                                          · show Act.put _ (some 137) _ = _
                                                                            simp only [Act.put, List.setIfInBounds_toArray, List.set_cons_zero, List.set_cons_succ, i64_w, i32_w]
                                                                            rfl
                                                                          refine pure_ (i := 14) (N := some 123) (v := ?_) (a' := ?_) #[true, true, true, true, true, true, true, true, true, true, true, true, true, true, true, false, false, false, false] rfl rfl (any_of HT_.out (by kernel_rfl)) (fun _ _ _ h => h) (Or.inl ⟨by rfl, ?_⟩) ?_ ?_
                                                                          rotate_left
                                                                          · intro w'
                                                                            go_simp
                                                                            with_reducible rfl
                                                                          rotate_left
                                                                          · simp only [Act.put, List.setIfInBounds_toArray, List.set_cons_zero, List.set_cons_succ, i64_w, i32_w]
                                                                            rfl
                                                                          refine pure_ (i := 15) (N := some 138) (v := ?_) (a' := ?_) #[true, true, true, true, true, true, true, true, true, true, true, true, true, true, true, true, false, false, false] rfl rfl (any_of HT_.out (by kernel_rfl)) (fun _ _ _ h => h) (Or.inl ⟨by rfl, ?_⟩) ?_ ?_
                                                                          rotate_left
                                                                          · intro w'
                                                                            go_simp
                                                                            with_reducible rfl
                                                                          rotate_left
                                                                          · simp only [Act.put, List.setIfInBounds_toArray, List.set_cons_zero, List.set_cons_succ, i64_w, i32_w]
                                                                            rfl
                                                                          refine pure_ (i := 16) (N := some 139) (v := ?_) (a' := ?_) #[true, true, true, true, true, true, true, true, true, true, true, true, true, true, true, true, true, false, false] rfl rfl (any_of HT_.out (by kernel_rfl)) (fun _ _ _ h => h) (Or.inl ⟨by rfl, ?_⟩) ?_ ?_
                                                                          rotate_left
                                                                          · intro w'
                                                                            go_simp
                                                                            with_reducible rfl
                                                                          rotate_left
                                                                          · simp only [Act.put, List.setIfInBounds_toArray, List.set_cons_zero, List.set_cons_succ, i64_w, i32_w]
                                                                            rfl
                                                                          refine pure_ (i := 17) (N := some 14) (v := ?_) (a' := ?_) #[true, true, true, true, true, true, true, true, true, true, true, true, true, true, true, true, true, true, false] rfl rfl (any_of HT_.out (by kernel_rfl)) (fun _ _ _ h => h) (Or.inl ⟨by rfl, ?_⟩) ?_ ?_
                                                                          rotate_left
                                                                          · intro w'
                                                                            go_simp
                                                                            with_reducible rfl
                                                                          rotate_left
                                                                          · simp only [Act.put, List.setIfInBounds_toArray, List.set_cons_zero, List.set_cons_succ, i64_w, i32_w]
                                                                            rfl
                                                                          refine pure_ (i := 18) (N := some 13) (v := ?_) (a' := ?_) #[true, true, true, true, true, true, true, true, true, true, true, true, true, true, true, true, true, true, true] rfl rfl (any_of HT_.out (by kernel_rfl)) (fun _ _ _ h => h) (Or.inl ⟨by rfl, ?_⟩) ?_ ?_
                                                                          rotate_left
                                                                          · intro w'
                                                                            go_simp
                                                                            with_reducible rfl
                                                                          rotate_left
                                                                          · simp only [Act.put, List.setIfInBounds_toArray, List.set_cons_zero, List.set_cons_succ, i64_w, i32_w]
                                                                            rfl
                                                                          refine done_ (done_of HT_.out (by kernel_rfl)) ?_
                                                                          try go_wp2_with (first | ((with_reducible refine gate_callee (f := 38) rfl ?_); refine goesL_ (some 141) rfl rfl Tryd.func38 (by kernel_rfl) rfl #[.int .i64 t150] rfl (by (try simp only [List.map_toArray, List.map_cons, List.map_nil]); first | done | rfl | (simp only [List.length_drop, List.length_take]; rfl)) ?_; (with_reducible refine (quilllaw13_num.calls t150 t166 _ A74.out).mono ?_); rintro e w' ⟨rfl, ⟨nd, rfl⟩⟩; refine ⟨_, rfl, ?_⟩))
                                                                          go_roundg kj43
                                                                          case measure => have := HK1.out; have := HJ9.out; have := HK3.out; have := HK4.out; have := HK5.out; have := HJ43.out; omega
                                                                          case rel => exact ⟨(wrap64 (x10_5 + 1)), (by first | rfl | (simp; done) | (simp [*]; done)), H', ⟨by have := HK1.out; have := HJ9.out; have := HK3.out; have := HK4.out; have := HK5.out; have := HJ43.out; omega⟩, ⟨by (with_reducible repeat (first | apply Kd.R_alloc | apply Kd.R_drewN | apply Kd.R_drew)); exact HO_4.out⟩, ⟨by (with_reducible repeat (first | apply Kd.R_alloc | apply Kd.R_drewN | apply Kd.R_drew)); exact HO_5.out⟩, ⟨by (with_reducible repeat (first | apply Kd.R_alloc | apply Kd.R_drewN | apply Kd.R_drew)); exact HO_6.out⟩, ⟨by (with_reducible repeat (first | apply Kd.R_alloc | apply Kd.R_drewN | apply Kd.R_drew)); exact HO_9.out⟩, ⟨by (with_reducible repeat (first | refine blk_drewN ?_ _ | refine blk_drew ?_ | refine blk_alloc ?_ _)); exact BK129.out⟩, ⟨by repeat (first | (with_reducible first | exact HB.out | apply below_alloc | apply pw_below_drewN | apply below_drew1 | refine below_set ?_ GE129.out) | exact HB.out)⟩⟩
                                                                        · rw [if_neg c76] at H
                                                                          have c76b0 : (t149 == t164) = false := beq_eq_false_iff_ne.mpr c76
                                                                          have c76b1 : (t149 != t164) = true := bne_iff_ne.mpr c76
                                                                          exact absurd (H.trans (congrArg some HRT.out)) (by decide)
                                                                      · rw [if_neg c75] at H
                                                                        have c75b0 : (t166 == t165) = false := beq_eq_false_iff_ne.mpr c75
                                                                        have c75b1 : (t166 != t165) = true := bne_iff_ne.mpr c75
                                                                        exact absurd (H.trans (congrArg some HRT.out)) (by decide)
                                                                    · rw [if_neg c72] at H
                                                                      exact absurd H (by simp)
                                                                  · rw [if_neg c71] at H
                                                                    exact absurd H (by simp)
                                                                · rw [if_neg c70] at H
                                                                  exact absurd H (by simp)
                                                              · rw [if_neg c69] at H
                                                                exact absurd H (by simp)
                                                            · rw [if_neg c68] at H
                                                              exact absurd H (by simp)
                                                          · rw [if_neg c67] at H
                                                            exact absurd H (by simp)
                                                        · replace c66 := Bool.eq_false_iff.mpr c66
                                                          subst c66
                                                          have H1 : ((quilllaw13_num.f t150).bind fun t167 => (if t167 = 1 then (if t149 = 0 then (quilllaw13_ParasMove.l3 kj43 x3_1 t133 t136 y139 x7_3 x8_4 y142 (wrap64 (x10_5 + 1)) l0_0 a0_1 a0_2 a0_3 a0_4 a0_5 a0_6 a0_7) else (some false)) else (some false))) = some r := by rw [if_neg (show ¬ (false = true) by decide)] at H; exact H
                                                          clear H
                                                          have H := H1
                                                          clear H1
                                                          replace H := Option.bind_eq_some_iff.mp H
                                                          obtain ⟨t167, A780, H⟩ := H
                                                          replace H : (if t167 = 1 then (if t149 = 0 then (quilllaw13_ParasMove.l3 kj43 x3_1 t133 t136 y139 x7_3 x8_4 y142 (wrap64 (x10_5 + 1)) l0_0 a0_1 a0_2 a0_3 a0_4 a0_5 a0_6 a0_7) else (some false)) else (some false)) = some r := H
                                                          have A78 := Aside0.mk A780
                                                          clear A780
                                                          by_cases c79 : t167 = 1
                                                          · rw [if_pos c79] at H
                                                            have c79b0 : (t167 == 1) = true := beq_iff_eq.mpr c79
                                                            have c79b1 : (t167 != 1) = false := bne_eq_false_iff_eq.mpr c79
                                                            clear c79
                                                            by_cases c80 : t149 = 0
                                                            · rw [if_pos c80] at H
                                                              have c80b0 : (t149 == 0) = true := beq_iff_eq.mpr c80
                                                              have c80b1 : (t149 != 0) = false := bne_eq_false_iff_eq.mpr c80
                                                              clear c80
                                                              have H' := Aside0.mk H
                                                              clear H
                                                              go_wp2_with (first | ((with_reducible refine gate_callee (f := 38) rfl ?_); refine goesL_ (some 141) rfl rfl Tryd.func38 (by kernel_rfl) rfl #[.int .i64 t150] rfl (by (try simp only [List.map_toArray, List.map_cons, List.map_nil]); first | done | rfl | (simp only [List.length_drop, List.length_take]; rfl)) ?_; (with_reducible refine (quilllaw13_num.calls t150 t167 _ A78.out).mono ?_); rintro e w' ⟨rfl, ⟨nd, rfl⟩⟩; refine ⟨_, rfl, ?_⟩))
                                                              go_roundg kj43
                                                              case measure => have := HK1.out; have := HJ9.out; have := HK3.out; have := HK4.out; have := HK5.out; have := HJ43.out; omega
                                                              case rel => exact ⟨(wrap64 (x10_5 + 1)), (by first | rfl | (simp; done) | (simp [*]; done)), H', ⟨by have := HK1.out; have := HJ9.out; have := HK3.out; have := HK4.out; have := HK5.out; have := HJ43.out; omega⟩, ⟨by (with_reducible repeat (first | apply Kd.R_alloc | apply Kd.R_drewN | apply Kd.R_drew)); exact HO_4.out⟩, ⟨by (with_reducible repeat (first | apply Kd.R_alloc | apply Kd.R_drewN | apply Kd.R_drew)); exact HO_5.out⟩, ⟨by (with_reducible repeat (first | apply Kd.R_alloc | apply Kd.R_drewN | apply Kd.R_drew)); exact HO_6.out⟩, ⟨by (with_reducible repeat (first | apply Kd.R_alloc | apply Kd.R_drewN | apply Kd.R_drew)); exact HO_9.out⟩, ⟨by (with_reducible repeat (first | refine blk_drewN ?_ _ | refine blk_drew ?_ | refine blk_alloc ?_ _)); exact BK129.out⟩, ⟨by repeat (first | (with_reducible first | exact HB.out | apply below_alloc | apply pw_below_drewN | apply below_drew1 | refine below_set ?_ GE129.out) | exact HB.out)⟩⟩
                                                            · rw [if_neg c80] at H
                                                              have c80b0 : (t149 == 0) = false := beq_eq_false_iff_ne.mpr c80
                                                              have c80b1 : (t149 != 0) = true := bne_iff_ne.mpr c80
                                                              exact absurd (H.trans (congrArg some HRT.out)) (by decide)
                                                          · rw [if_neg c79] at H
                                                            have c79b0 : (t167 == 1) = false := beq_eq_false_iff_ne.mpr c79
                                                            have c79b1 : (t167 != 1) = true := bne_iff_ne.mpr c79
                                                            exact absurd (H.trans (congrArg some HRT.out)) (by decide)
                                                  · rw [if_neg c42] at H
                                                    exact absurd H (by simp)
                                                · rw [if_neg c41] at H
                                                  exact absurd H (by simp)
                                              · rw [if_neg c40] at H
                                                exact absurd H (by simp)
                                            · rw [if_neg c39] at H
                                              exact absurd H (by simp)
                                          · rw [if_neg c38] at H
                                            exact absurd H (by simp)
                                        · rw [if_neg c37] at H
                                          exact absurd H (by simp)
                                      · rw [if_neg c36] at H
                                        exact absurd H (by simp)
                                    · rw [if_neg c35] at H
                                      exact absurd H (by simp)
                                  · rw [if_neg c34] at H
                                    have c34b0 : decide (x10_5 < 3) = false := decide_eq_false c34
                                    clear c34
                                    have H' := Aside0.mk H
                                    clear H
                                    go_wp2
                                    go_roundg k5
                                    case measure => have := HK1.out; have := HJ9.out; have := HK3.out; have := HK4.out; have := HK5.out; omega
                                    case rel => exact ⟨(wrap64 (x8_4 + 1)), (by first | rfl | (simp; done) | (simp [*]; done)), H', ⟨by have := HK1.out; have := HJ9.out; have := HK3.out; have := HK4.out; have := HK5.out; omega⟩, ⟨by (with_reducible repeat (first | apply Kd.R_alloc | apply Kd.R_drewN | apply Kd.R_drew)); exact HO_4.out⟩, ⟨by (with_reducible repeat (first | apply Kd.R_alloc | apply Kd.R_drewN | apply Kd.R_drew)); exact Kd.R_mono HO_5.out (fun _ hk => hk.1)⟩, ⟨by (with_reducible repeat (first | apply Kd.R_alloc | apply Kd.R_drewN | apply Kd.R_drew)); exact Kd.R_mono HO_6.out (fun _ hk => hk.1)⟩, ⟨by (with_reducible repeat (first | refine blk_drewN ?_ _ | refine blk_drew ?_ | refine blk_alloc ?_ _)); exact BK129.out⟩, ⟨by repeat (first | (with_reducible first | exact HB.out | apply below_alloc | apply pw_below_drewN | apply below_drew1 | refine below_set ?_ GE129.out) | exact HB.out)⟩⟩
                            · rw [if_neg c29] at H
                              have c29b0 : decide (x8_4 < (t136.length : Int)) = false := decide_eq_false c29
                              clear c29
                              have H' := Aside0.mk H
                              clear H
                              obtain ⟨Ao81, co81, eo81⟩ := Kd.R_slice HO_5.out
                              subst eo81
                              go_wp2
                              go_roundg k4
                              case measure => have := HK1.out; have := HJ9.out; have := HK3.out; have := HK4.out; omega
                              case rel => exact ⟨(wrap64 (x7_3 + 1)), (by first | rfl | (simp; done) | (simp [*]; done)), H', ⟨by have := HK1.out; have := HJ9.out; have := HK3.out; have := HK4.out; omega⟩, ⟨by (with_reducible repeat (first | apply Kd.R_alloc | apply Kd.R_drewN | apply Kd.R_drew)); exact HO_4.out⟩, ⟨by (with_reducible repeat (first | apply Kd.R_alloc | apply Kd.R_drewN | apply Kd.R_drew)); exact HO_5.out⟩, ⟨by (with_reducible repeat (first | apply Kd.R_alloc | apply Kd.R_drewN | apply Kd.R_drew)); exact HO_6.out⟩, ⟨by (with_reducible repeat (first | refine blk_drewN ?_ _ | refine blk_drew ?_ | refine blk_alloc ?_ _)); exact BK129.out⟩, ⟨by repeat (first | (with_reducible first | exact HB.out | apply below_alloc | apply pw_below_drewN | apply below_drew1 | refine below_set ?_ GE129.out) | exact HB.out)⟩⟩
                      · rw [if_neg c27] at H
                        have c27b0 : decide (x7_3 < (y139.length : Int)) = false := decide_eq_false c27
                        clear c27
                        have H' := Aside0.mk H
                        clear H
                        obtain ⟨Ao82, co82, eo82⟩ := Kd.R_slice HO_6.out
                        subst eo82
                        go_wp2
                        go_roundg k3
                        case measure => have := HK1.out; have := HJ9.out; have := HK3.out; omega
                        case rel => exact ⟨(wrap64 (x3_1 + 1)), (by first | rfl | (simp; done) | (simp [*]; done)), H', ⟨by have := HK1.out; have := HJ9.out; have := HK3.out; omega⟩, ⟨by (with_reducible repeat (first | refine blk_drewN ?_ _ | refine blk_drew ?_ | refine blk_alloc ?_ _)); exact BK129.out⟩, ⟨by repeat (first | (with_reducible first | exact HB.out | apply below_alloc | apply pw_below_drewN | apply below_drew1 | refine below_set ?_ GE129.out) | exact HB.out)⟩⟩
                · rw [if_neg c16] at H
                  exact absurd H (by simp)
              · rw [if_neg c15] at H
                exact absurd H (by simp)
            · replace c14 := Bool.eq_false_iff.mpr c14
              subst c14
              have H1 : ((quilllaw13_wakes.f).bind fun t131 => (some t131)) = some r := by rw [if_neg (show ¬ (false = true) by decide)] at H; exact H
              clear H
              have H := H1
              clear H1
              replace H := Option.bind_eq_some_iff.mp H
              obtain ⟨t131, A830, H⟩ := H
              replace H : (some t131) = some r := H
              have A83 := Aside0.mk A830
              clear A830
              obtain rfl := Option.some.inj H
              go_wp2_with (first | ((with_reducible refine gate_callee (f := 39) rfl ?_); refine goesL_ (some 149) rfl rfl Tryd.func39 (by kernel_rfl) rfl #[] rfl (by (try simp only [List.map_toArray, List.map_cons, List.map_nil]); first | done | rfl | (simp only [List.length_drop, List.length_take]; rfl)) ?_; (with_reducible refine (quilllaw13_wakes.calls  t131 _ ?side1 A83.out).mono ?_); (case side1 => repeat (first | exact HT.out | exact T_below HT.out HB.out | (with_reducible refine T_alloc ?_ _) | (with_reducible refine T_drewN ?_ _) | (with_reducible refine T_drew ?_) | exact T_below HT.out (by repeat (first | (with_reducible first | exact HB.out | apply below_alloc | apply pw_below_drewN | apply below_drew1 | refine below_set ?_ GE129.out) | exact HB.out)))); rintro e w84 ⟨rfl, hb⟩; refine ⟨_, rfl, ?_⟩; have n0_ := Aside0.mk (blk_below (g := gb129) (o := .cells #[.slice A0_0 l0_0.length c0_0, .int .i64 a0_1, .int .i64 a0_2, .int .i64 a0_3, .int .i64 a0_4, .int .i64 a0_5, .int .i64 a0_6, .int .i64 a0_7] 50 (0, 0)) (by (with_reducible repeat (first | refine blk_drewN ?_ _ | refine blk_drew ?_ | refine blk_alloc ?_ _)); exact BK129.out) hb); have n1_ := Aside0.mk (below_step (by repeat (first | (with_reducible first | exact HB.out | apply below_alloc | apply pw_below_drewN | apply below_drew1 | refine below_set ?_ GE129.out) | exact HB.out)) hb); clear BK129; clear HB; have BK129 := n0_; have HB := n1_; clear n0_ n1_; (try clear hb); (try clear hb2); (try clear hk); (try clear hi)))
              go_ret
              exact ⟨by first | rfl | (simp [errW_none, errW_some] <;> rfl) | (simp [*, errW_none, errW_some] <;> rfl), by repeat (first | (with_reducible first | exact HB.out | apply below_alloc | apply pw_below_drewN | apply below_drew1 | refine below_set ?_ GE129.out) | exact HB.out)⟩

end Go.Proofs.YtfiapekpeiapbaaDoor.Pv
