-- printed by wip/tools/pr.py out of the translation; Lean checks it
import Derived.Test.YtimecfelcjgpiaaCyx0
import Derived.Test.YtimecfelcjgpiaaCyx2
import Derived.Test.YtimecfelcjgpiaaCyx3
import Derived.Test.YtimecfelcjgpiaaCyx4
namespace Go.Proofs.Ytimecfelcjgpiaa.Cy
open Go.Proofs.Ytimecfelcjgpiaa.F Go.Proofs.Ytimecfelcjgpiaa.Q Go.RowKit Go.Proofs.YtimecfelcjgpiaaW.PrintWords Go.Proofs.YtimecfelcjgpiaaW.PrintLast Go.Proofs.YtimecfelcjgpiaaW.PrintMore
attribute [local go_sem] max2_int min2_int max_two min_two max_three min_three max_four min_four   -- for this text's walks alone
set_option linter.unusedVariables false
set_option linter.unusedSimpArgs false

/-! ### quilllaw25_CodecBytes: function 3 -/
mutual
def quilllaw25_CodecBytes.l0 : Nat → List ByteArray → Int → List (S32) → List ByteArray → Option (Bool)
 | 0, _, _, _, _ => none
 | k + 1, x3, x4, x194000, x194001 => if x4 < (x194000.length : Int) then (quilllaw25_CodecBytes.j1 k x3 x4 (decide (x4 < 8)) x194000 x194001) else (quilllaw25_CodecBytes.j1 k x3 x4 false x194000 x194001)
def quilllaw25_CodecBytes.j1 : Nat → List ByteArray → Int → Bool → List (S32) → List ByteArray → Option (Bool)
 | 0, _, _, _, _, _ => none
 | k + 1, x3, x4, x30, x194000, x194001 => if x30 = true then (if 0 ≤ x4 then (if x4 < (x194000.length : Int) then ((quillref0_CopyOp.f k ((rd_T32 x194000 x4).f0) ((rd_T32 x194000 x4).f1.f0) ((rd_T32 x194000 x4).f1.f1) ((rd_T32 x194000 x4).f2.f0) ((rd_T32 x194000 x4).f2.f1) ((rd_T32 x194000 x4).f3) ((rd_T32 x194000 x4).f4) ((rd_T32 x194000 x4).f5) ((rd_T32 x194000 x4).f6)).bind fun bt199 => ((codec_Bytes.f bt199.1 bt199.2.1 bt199.2.2.1 bt199.2.2.2.1 bt199.2.2.2.2.1 bt199.2.2.2.2.2.1 bt199.2.2.2.2.2.2.1 bt199.2.2.2.2.2.2.2.1 bt199.2.2.2.2.2.2.2.2).bind fun bt211 => ((quillref24_Op.f k ((rd_T32 x194000 x4).f0) ((rd_T32 x194000 x4).f1.f0) ((rd_T32 x194000 x4).f1.f1) ((rd_T32 x194000 x4).f2.f0) ((rd_T32 x194000 x4).f2.f1) ((rd_T32 x194000 x4).f3) ((rd_T32 x194000 x4).f4) ((rd_T32 x194000 x4).f5) ((rd_T32 x194000 x4).f6)).bind fun t214 => (if t214 = true then ((quillref24_Bytes.f k ((rd_T32 x194000 x4).f0) ((rd_T32 x194000 x4).f1.f0) ((rd_T32 x194000 x4).f1.f1) ((rd_T32 x194000 x4).f2.f0) ((rd_T32 x194000 x4).f2.f1) ((rd_T32 x194000 x4).f3) ((rd_T32 x194000 x4).f4) ((rd_T32 x194000 x4).f5) ((rd_T32 x194000 x4).f6)).bind fun t216 => (if t216.size + 1 ≤ 9223372036854775807 then (if 0 ≤ 20 then (if 20 ≤ (t216.size : Int) then ((some (([t216, t216 ++ (⟨#[120]⟩ : ByteArray), t216.extract 0 20] : List ByteArray) : List ByteArray)).bind fun y217 => (if x3.length + y217.length < 8796093022208 then (quilllaw25_CodecBytes.l1 k (x3 ++ y217) x4 bt211.1 bt211.2 0 t216 0 x194000 x194001 bt199.1 bt199.2.1 bt199.2.2.1 bt199.2.2.2.1 bt199.2.2.2.2.1 bt199.2.2.2.2.2.1 bt199.2.2.2.2.2.2.1 bt199.2.2.2.2.2.2.2.1 bt199.2.2.2.2.2.2.2.2) else (none))) else (none)) else (none)) else (none))) else (quilllaw25_CodecBytes.j3 k x3 x4 bt211.1 bt211.2 1 (⟨#[]⟩ : ByteArray) x194000 x194001 bt199.1 bt199.2.1 bt199.2.2.1 bt199.2.2.2.1 bt199.2.2.2.2.1 bt199.2.2.2.2.2.1 bt199.2.2.2.2.2.2.1 bt199.2.2.2.2.2.2.2.1 bt199.2.2.2.2.2.2.2.2))))) else (none)) else (none)) else (quilllaw25_CodecBytes.l2 k x3 0)
def quilllaw25_CodecBytes.j3 : Nat → List ByteArray → Int → ByteArray → Int → Int → ByteArray → List (S32) → List ByteArray → Int → Int → Int → Int → Int → Int → Int → Int → List Int → Option (Bool)
 | 0, _, _, _, _, _, _, _, _, _, _, _, _, _, _, _, _, _ => none
 | k + 1, x3, x4, x6, x7, x8, x9, x194000, x194001, x211000, x211001, x211002, x211003, x211004, x211005, x211006, x211007, x211008 => (quilllaw25_num.f x7).bind fun t231 => (if t231 = x8 then (if x6.toList = x9.toList then (if 0 ≤ x4 then (if x4 < (x194000.length : Int) then ((quillref0_EqOp.f k x211000 x211001 x211002 x211003 x211004 x211005 x211006 x211007 x211008 ((rd_T32 x194000 x4).f0) ((rd_T32 x194000 x4).f1.f0) ((rd_T32 x194000 x4).f1.f1) ((rd_T32 x194000 x4).f2.f0) ((rd_T32 x194000 x4).f2.f1) ((rd_T32 x194000 x4).f3) ((rd_T32 x194000 x4).f4) ((rd_T32 x194000 x4).f5) ((rd_T32 x194000 x4).f6)).bind fun t233 => (if t233 = true then (quilllaw25_CodecBytes.l0 k x3 (wrap64 (x4 + 1)) x194000 x194001) else (some false))) else (none)) else (none)) else (some false)) else (some false))
def quilllaw25_CodecBytes.l1 : Nat → List ByteArray → Int → ByteArray → Int → Int → ByteArray → Int → List (S32) → List ByteArray → Int → Int → Int → Int → Int → Int → Int → Int → List Int → Option (Bool)
 | 0, _, _, _, _, _, _, _, _, _, _, _, _, _, _, _, _, _, _ => none
 | k + 1, x3, x4, x6, x7, x8, x9, x10, x194000, x194001, x211000, x211001, x211002, x211003, x211004, x211005, x211006, x211007, x211008 => if x10 < 21 then ((cv_9_39.f x9).bind fun t223 => (if 0 ≤ x10 then (if x10 < (t223.length : Int) then (if 0 ≤ (Int.tmod (wrap64 (x4 + x10)) 8) then (if x3.length < 8796093022208 then (quilllaw25_CodecBytes.l1 k (x3 ++ [strOfNums (t223.set (x10 : Int).toNat (Go.bits .xor .u8 (rd t223 x10) (shl .u8 1 (Int.tmod (wrap64 (x4 + x10)) 8))))]) x4 x6 x7 x8 x9 (wrap64 (x10 + 1)) x194000 x194001 x211000 x211001 x211002 x211003 x211004 x211005 x211006 x211007 x211008) else (none)) else (none)) else (none)) else (none))) else (quilllaw25_CodecBytes.j3 k x3 x4 x6 x7 x8 x9 x194000 x194001 x211000 x211001 x211002 x211003 x211004 x211005 x211006 x211007 x211008)
def quilllaw25_CodecBytes.l2 : Nat → List ByteArray → Int → Option (Bool)
 | 0, _, _ => none
 | k + 1, x3, x12 => if x12 < (x3.length : Int) then (if 0 ≤ x12 then ((codec_Take.f (rdOf ByteArray.empty x3 x12)).bind fun bt236 => ((quillref24_Take.f k (rdOf ByteArray.empty x3 x12)).bind fun bt250 => ((quilllaw25_num.f bt236.2.2.2.2.2.2.2.2.2).bind fun t263 => (if (bt250.2.2.2.2.2.2.2.2.2 != (t263 == 0)) = true then (some false) else (if bt250.2.2.2.2.2.2.2.2.2 = true then ((quillref0_EqOp.f k bt236.1 bt236.2.1 bt236.2.2.1 bt236.2.2.2.1 bt236.2.2.2.2.1 bt236.2.2.2.2.2.1 bt236.2.2.2.2.2.2.1 bt236.2.2.2.2.2.2.2.1 bt236.2.2.2.2.2.2.2.2.1 bt250.1 bt250.2.1 bt250.2.2.1 bt250.2.2.2.1 bt250.2.2.2.2.1 bt250.2.2.2.2.2.1 bt250.2.2.2.2.2.2.1 bt250.2.2.2.2.2.2.2.1 bt250.2.2.2.2.2.2.2.2.1).bind fun t264 => (if t264 = true then (quilllaw25_CodecBytes.l2 k x3 (wrap64 (x12 + 1))) else (some false))) else ((quilllaw25_num.f bt236.2.2.2.2.2.2.2.2.2).bind fun t265 => (if t265 = 9 then ((quillref0_EqOp.f k bt236.1 bt236.2.1 bt236.2.2.1 bt236.2.2.2.1 bt236.2.2.2.2.1 bt236.2.2.2.2.2.1 bt236.2.2.2.2.2.2.1 bt236.2.2.2.2.2.2.2.1 bt236.2.2.2.2.2.2.2.2.1 bt250.1 bt250.2.1 bt250.2.2.1 bt250.2.2.2.1 bt250.2.2.2.2.1 bt250.2.2.2.2.2.1 bt250.2.2.2.2.2.2.1 bt250.2.2.2.2.2.2.2.1 bt250.2.2.2.2.2.2.2.2.1).bind fun t266 => (if t266 = true then (quilllaw25_CodecBytes.l2 k x3 (wrap64 (x12 + 1))) else (some false))) else (some false)))))))) else (none)) else ((quilllaw25_wakes.f k).bind fun t234 => (some t234))
end
def quilllaw25_CodecBytes.f (k : Nat) (l0_0 : List (S32)) (l0_1 : List ByteArray) : Option (Bool) := (quilllaw25_Heavy.f k l0_0 l0_1).bind fun t194 => (if t194 = true then (some true) else ((quillref0_CopyStrings.f k l0_1).bind fun t195 => (quilllaw25_CodecBytes.l0 k t195 0 l0_0 l0_1)))
theorem quilllaw25_CodecBytes.mono_l : ∀ k, (∀ y0 y1 y2 y3, LeO (quilllaw25_CodecBytes.l0 k y0 y1 y2 y3) (quilllaw25_CodecBytes.l0 (k + 1) y0 y1 y2 y3)) ∧ (∀ y0 y1 y2 y3 y4, LeO (quilllaw25_CodecBytes.j1 k y0 y1 y2 y3 y4) (quilllaw25_CodecBytes.j1 (k + 1) y0 y1 y2 y3 y4)) ∧ (∀ y0 y1 y2 y3 y4 y5 y6 y7 y8 y9 y10 y11 y12 y13 y14 y15 y16, LeO (quilllaw25_CodecBytes.j3 k y0 y1 y2 y3 y4 y5 y6 y7 y8 y9 y10 y11 y12 y13 y14 y15 y16) (quilllaw25_CodecBytes.j3 (k + 1) y0 y1 y2 y3 y4 y5 y6 y7 y8 y9 y10 y11 y12 y13 y14 y15 y16)) ∧ (∀ y0 y1 y2 y3 y4 y5 y6 y7 y8 y9 y10 y11 y12 y13 y14 y15 y16 y17, LeO (quilllaw25_CodecBytes.l1 k y0 y1 y2 y3 y4 y5 y6 y7 y8 y9 y10 y11 y12 y13 y14 y15 y16 y17) (quilllaw25_CodecBytes.l1 (k + 1) y0 y1 y2 y3 y4 y5 y6 y7 y8 y9 y10 y11 y12 y13 y14 y15 y16 y17)) ∧ (∀ y0 y1, LeO (quilllaw25_CodecBytes.l2 k y0 y1) (quilllaw25_CodecBytes.l2 (k + 1) y0 y1))
 | 0 => ⟨fun _ _ _ _ r h => by simp [quilllaw25_CodecBytes.l0] at h, fun _ _ _ _ _ r h => by simp [quilllaw25_CodecBytes.j1] at h, fun _ _ _ _ _ _ _ _ _ _ _ _ _ _ _ _ _ r h => by simp [quilllaw25_CodecBytes.j3] at h, fun _ _ _ _ _ _ _ _ _ _ _ _ _ _ _ _ _ _ r h => by simp [quilllaw25_CodecBytes.l1] at h, fun _ _ r h => by simp [quilllaw25_CodecBytes.l2] at h⟩
 | k + 1 => by
  obtain ⟨ih0, ih1, ih2, ih3, ih4⟩ := quilllaw25_CodecBytes.mono_l k
  refine ⟨?_, ?_, ?_, ?_, ?_⟩
  ·
   intro y0 y1 y2 y3
   unfold quilllaw25_CodecBytes.l0
   repeat' first
   | (with_reducible exact ih0 _ _ _ _)
   | (with_reducible exact ih1 _ _ _ _ _)
   | (with_reducible exact ih2 _ _ _ _ _ _ _ _ _ _ _ _ _ _ _ _ _)
   | (with_reducible exact ih3 _ _ _ _ _ _ _ _ _ _ _ _ _ _ _ _ _ _)
   | (with_reducible exact ih4 _ _)
   | (with_reducible exact quilllaw25_Heavy.mono _ _ _)
   | (with_reducible exact quilllaw25_wakes.mono _)
   | (with_reducible exact quillref0_CopyOp.mono _ _ _ _ _ _ _ _ _ _)
   | (with_reducible exact quillref0_CopyStrings.mono _ _)
   | (with_reducible exact quillref0_EqOp.mono _ _ _ _ _ _ _ _ _ _ _ _ _ _ _ _ _ _ _)
   | (with_reducible exact quillref24_Bytes.mono _ _ _ _ _ _ _ _ _ _)
   | (with_reducible exact quillref24_Op.mono _ _ _ _ _ _ _ _ _ _)
   | (with_reducible exact quillref24_Take.mono _ _)
   | (with_reducible exact LeO.refl _)
   | (with_reducible exact LeO.none _)
   | (with_reducible refine LeO.ite ?_ ?_)
   | (with_reducible refine LeO.bind ?_ (fun _ => ?_))
   | exact ih0 _ _ _ _
   | exact ih1 _ _ _ _ _
   | exact ih2 _ _ _ _ _ _ _ _ _ _ _ _ _ _ _ _ _
   | exact ih3 _ _ _ _ _ _ _ _ _ _ _ _ _ _ _ _ _ _
   | exact ih4 _ _
   | exact quilllaw25_Heavy.mono _ _ _
   | exact quilllaw25_wakes.mono _
   | exact quillref0_CopyOp.mono _ _ _ _ _ _ _ _ _ _
   | exact quillref0_CopyStrings.mono _ _
   | exact quillref0_EqOp.mono _ _ _ _ _ _ _ _ _ _ _ _ _ _ _ _ _ _ _
   | exact quillref24_Bytes.mono _ _ _ _ _ _ _ _ _ _
   | exact quillref24_Op.mono _ _ _ _ _ _ _ _ _ _
   | exact quillref24_Take.mono _ _
   | exact LeO.none _
   | refine LeO.ite ?_ ?_
   | refine LeO.bind ?_ (fun _ => ?_)
  ·
   intro y0 y1 y2 y3 y4
   unfold quilllaw25_CodecBytes.j1
   repeat' first
   | (with_reducible exact ih0 _ _ _ _)
   | (with_reducible exact ih1 _ _ _ _ _)
   | (with_reducible exact ih2 _ _ _ _ _ _ _ _ _ _ _ _ _ _ _ _ _)
   | (with_reducible exact ih3 _ _ _ _ _ _ _ _ _ _ _ _ _ _ _ _ _ _)
   | (with_reducible exact ih4 _ _)
   | (with_reducible exact quilllaw25_Heavy.mono _ _ _)
   | (with_reducible exact quilllaw25_wakes.mono _)
   | (with_reducible exact quillref0_CopyOp.mono _ _ _ _ _ _ _ _ _ _)
   | (with_reducible exact quillref0_CopyStrings.mono _ _)
   | (with_reducible exact quillref0_EqOp.mono _ _ _ _ _ _ _ _ _ _ _ _ _ _ _ _ _ _ _)
   | (with_reducible exact quillref24_Bytes.mono _ _ _ _ _ _ _ _ _ _)
   | (with_reducible exact quillref24_Op.mono _ _ _ _ _ _ _ _ _ _)
   | (with_reducible exact quillref24_Take.mono _ _)
   | (with_reducible exact LeO.refl _)
   | (with_reducible exact LeO.none _)
   | (with_reducible refine LeO.ite ?_ ?_)
   | (with_reducible refine LeO.bind ?_ (fun _ => ?_))
   | exact ih0 _ _ _ _
   | exact ih1 _ _ _ _ _
   | exact ih2 _ _ _ _ _ _ _ _ _ _ _ _ _ _ _ _ _
   | exact ih3 _ _ _ _ _ _ _ _ _ _ _ _ _ _ _ _ _ _
   | exact ih4 _ _
   | exact quilllaw25_Heavy.mono _ _ _
   | exact quilllaw25_wakes.mono _
   | exact quillref0_CopyOp.mono _ _ _ _ _ _ _ _ _ _
   | exact quillref0_CopyStrings.mono _ _
   | exact quillref0_EqOp.mono _ _ _ _ _ _ _ _ _ _ _ _ _ _ _ _ _ _ _
   | exact quillref24_Bytes.mono _ _ _ _ _ _ _ _ _ _
   | exact quillref24_Op.mono _ _ _ _ _ _ _ _ _ _
   | exact quillref24_Take.mono _ _
   | exact LeO.none _
   | refine LeO.ite ?_ ?_
   | refine LeO.bind ?_ (fun _ => ?_)
  ·
   intro y0 y1 y2 y3 y4 y5 y6 y7 y8 y9 y10 y11 y12 y13 y14 y15 y16
   unfold quilllaw25_CodecBytes.j3
   repeat' first
   | (with_reducible exact ih0 _ _ _ _)
   | (with_reducible exact ih1 _ _ _ _ _)
   | (with_reducible exact ih2 _ _ _ _ _ _ _ _ _ _ _ _ _ _ _ _ _)
   | (with_reducible exact ih3 _ _ _ _ _ _ _ _ _ _ _ _ _ _ _ _ _ _)
   | (with_reducible exact ih4 _ _)
   | (with_reducible exact quilllaw25_Heavy.mono _ _ _)
   | (with_reducible exact quilllaw25_wakes.mono _)
   | (with_reducible exact quillref0_CopyOp.mono _ _ _ _ _ _ _ _ _ _)
   | (with_reducible exact quillref0_CopyStrings.mono _ _)
   | (with_reducible exact quillref0_EqOp.mono _ _ _ _ _ _ _ _ _ _ _ _ _ _ _ _ _ _ _)
   | (with_reducible exact quillref24_Bytes.mono _ _ _ _ _ _ _ _ _ _)
   | (with_reducible exact quillref24_Op.mono _ _ _ _ _ _ _ _ _ _)
   | (with_reducible exact quillref24_Take.mono _ _)
   | (with_reducible exact LeO.refl _)
   | (with_reducible exact LeO.none _)
   | (with_reducible refine LeO.ite ?_ ?_)
   | (with_reducible refine LeO.bind ?_ (fun _ => ?_))
   | exact ih0 _ _ _ _
   | exact ih1 _ _ _ _ _
   | exact ih2 _ _ _ _ _ _ _ _ _ _ _ _ _ _ _ _ _
   | exact ih3 _ _ _ _ _ _ _ _ _ _ _ _ _ _ _ _ _ _
   | exact ih4 _ _
   | exact quilllaw25_Heavy.mono _ _ _
   | exact quilllaw25_wakes.mono _
   | exact quillref0_CopyOp.mono _ _ _ _ _ _ _ _ _ _
   | exact quillref0_CopyStrings.mono _ _
   | exact quillref0_EqOp.mono _ _ _ _ _ _ _ _ _ _ _ _ _ _ _ _ _ _ _
   | exact quillref24_Bytes.mono _ _ _ _ _ _ _ _ _ _
   | exact quillref24_Op.mono _ _ _ _ _ _ _ _ _ _
   | exact quillref24_Take.mono _ _
   | exact LeO.none _
   | refine LeO.ite ?_ ?_
   | refine LeO.bind ?_ (fun _ => ?_)
  ·
   intro y0 y1 y2 y3 y4 y5 y6 y7 y8 y9 y10 y11 y12 y13 y14 y15 y16 y17
   unfold quilllaw25_CodecBytes.l1
   repeat' first
   | (with_reducible exact ih0 _ _ _ _)
   | (with_reducible exact ih1 _ _ _ _ _)
   | (with_reducible exact ih2 _ _ _ _ _ _ _ _ _ _ _ _ _ _ _ _ _)
   | (with_reducible exact ih3 _ _ _ _ _ _ _ _ _ _ _ _ _ _ _ _ _ _)
   | (with_reducible exact ih4 _ _)
   | (with_reducible exact quilllaw25_Heavy.mono _ _ _)
   | (with_reducible exact quilllaw25_wakes.mono _)
   | (with_reducible exact quillref0_CopyOp.mono _ _ _ _ _ _ _ _ _ _)
   | (with_reducible exact quillref0_CopyStrings.mono _ _)
   | (with_reducible exact quillref0_EqOp.mono _ _ _ _ _ _ _ _ _ _ _ _ _ _ _ _ _ _ _)
   | (with_reducible exact quillref24_Bytes.mono _ _ _ _ _ _ _ _ _ _)
   | (with_reducible exact quillref24_Op.mono _ _ _ _ _ _ _ _ _ _)
   | (with_reducible exact quillref24_Take.mono _ _)
   | (with_reducible exact LeO.refl _)
   | (with_reducible exact LeO.none _)
   | (with_reducible refine LeO.ite ?_ ?_)
   | (with_reducible refine LeO.bind ?_ (fun _ => ?_))
   | exact ih0 _ _ _ _
   | exact ih1 _ _ _ _ _
   | exact ih2 _ _ _ _ _ _ _ _ _ _ _ _ _ _ _ _ _
   | exact ih3 _ _ _ _ _ _ _ _ _ _ _ _ _ _ _ _ _ _
   | exact ih4 _ _
   | exact quilllaw25_Heavy.mono _ _ _
   | exact quilllaw25_wakes.mono _
   | exact quillref0_CopyOp.mono _ _ _ _ _ _ _ _ _ _
   | exact quillref0_CopyStrings.mono _ _
   | exact quillref0_EqOp.mono _ _ _ _ _ _ _ _ _ _ _ _ _ _ _ _ _ _ _
   | exact quillref24_Bytes.mono _ _ _ _ _ _ _ _ _ _
   | exact quillref24_Op.mono _ _ _ _ _ _ _ _ _ _
   | exact quillref24_Take.mono _ _
   | exact LeO.none _
   | refine LeO.ite ?_ ?_
   | refine LeO.bind ?_ (fun _ => ?_)
  ·
   intro y0 y1
   unfold quilllaw25_CodecBytes.l2
   repeat' first
   | (with_reducible exact ih0 _ _ _ _)
   | (with_reducible exact ih1 _ _ _ _ _)
   | (with_reducible exact ih2 _ _ _ _ _ _ _ _ _ _ _ _ _ _ _ _ _)
   | (with_reducible exact ih3 _ _ _ _ _ _ _ _ _ _ _ _ _ _ _ _ _ _)
   | (with_reducible exact ih4 _ _)
   | (with_reducible exact quilllaw25_Heavy.mono _ _ _)
   | (with_reducible exact quilllaw25_wakes.mono _)
   | (with_reducible exact quillref0_CopyOp.mono _ _ _ _ _ _ _ _ _ _)
   | (with_reducible exact quillref0_CopyStrings.mono _ _)
   | (with_reducible exact quillref0_EqOp.mono _ _ _ _ _ _ _ _ _ _ _ _ _ _ _ _ _ _ _)
   | (with_reducible exact quillref24_Bytes.mono _ _ _ _ _ _ _ _ _ _)
   | (with_reducible exact quillref24_Op.mono _ _ _ _ _ _ _ _ _ _)
   | (with_reducible exact quillref24_Take.mono _ _)
   | (with_reducible exact LeO.refl _)
   | (with_reducible exact LeO.none _)
   | (with_reducible refine LeO.ite ?_ ?_)
   | (with_reducible refine LeO.bind ?_ (fun _ => ?_))
   | exact ih0 _ _ _ _
   | exact ih1 _ _ _ _ _
   | exact ih2 _ _ _ _ _ _ _ _ _ _ _ _ _ _ _ _ _
   | exact ih3 _ _ _ _ _ _ _ _ _ _ _ _ _ _ _ _ _ _
   | exact ih4 _ _
   | exact quilllaw25_Heavy.mono _ _ _
   | exact quilllaw25_wakes.mono _
   | exact quillref0_CopyOp.mono _ _ _ _ _ _ _ _ _ _
   | exact quillref0_CopyStrings.mono _ _
   | exact quillref0_EqOp.mono _ _ _ _ _ _ _ _ _ _ _ _ _ _ _ _ _ _ _
   | exact quillref24_Bytes.mono _ _ _ _ _ _ _ _ _ _
   | exact quillref24_Op.mono _ _ _ _ _ _ _ _ _ _
   | exact quillref24_Take.mono _ _
   | exact LeO.none _
   | refine LeO.ite ?_ ?_
   | refine LeO.bind ?_ (fun _ => ?_)
theorem quilllaw25_CodecBytes.mono : ∀ a0 a1 k, LeO (quilllaw25_CodecBytes.f k a0 a1) (quilllaw25_CodecBytes.f (k + 1) a0 a1) := by
 intro a0 a1 k
 obtain ⟨ih0, ih1, ih2, ih3, ih4⟩ := quilllaw25_CodecBytes.mono_l k
 unfold quilllaw25_CodecBytes.f
 repeat' first
   | (with_reducible exact ih0 _ _ _ _)
   | (with_reducible exact ih1 _ _ _ _ _)
   | (with_reducible exact ih2 _ _ _ _ _ _ _ _ _ _ _ _ _ _ _ _ _)
   | (with_reducible exact ih3 _ _ _ _ _ _ _ _ _ _ _ _ _ _ _ _ _ _)
   | (with_reducible exact ih4 _ _)
   | (with_reducible exact quilllaw25_Heavy.mono _ _ _)
   | (with_reducible exact quilllaw25_wakes.mono _)
   | (with_reducible exact quillref0_CopyOp.mono _ _ _ _ _ _ _ _ _ _)
   | (with_reducible exact quillref0_CopyStrings.mono _ _)
   | (with_reducible exact quillref0_EqOp.mono _ _ _ _ _ _ _ _ _ _ _ _ _ _ _ _ _ _ _)
   | (with_reducible exact quillref24_Bytes.mono _ _ _ _ _ _ _ _ _ _)
   | (with_reducible exact quillref24_Op.mono _ _ _ _ _ _ _ _ _ _)
   | (with_reducible exact quillref24_Take.mono _ _)
   | (with_reducible exact LeO.refl _)
   | (with_reducible exact LeO.none _)
   | (with_reducible refine LeO.ite ?_ ?_)
   | (with_reducible refine LeO.bind ?_ (fun _ => ?_))
   | exact ih0 _ _ _ _
   | exact ih1 _ _ _ _ _
   | exact ih2 _ _ _ _ _ _ _ _ _ _ _ _ _ _ _ _ _
   | exact ih3 _ _ _ _ _ _ _ _ _ _ _ _ _ _ _ _ _ _
   | exact ih4 _ _
   | exact quilllaw25_Heavy.mono _ _ _
   | exact quilllaw25_wakes.mono _
   | exact quillref0_CopyOp.mono _ _ _ _ _ _ _ _ _ _
   | exact quillref0_CopyStrings.mono _ _
   | exact quillref0_EqOp.mono _ _ _ _ _ _ _ _ _ _ _ _ _ _ _ _ _ _ _
   | exact quillref24_Bytes.mono _ _ _ _ _ _ _ _ _ _
   | exact quillref24_Op.mono _ _ _ _ _ _ _ _ _ _
   | exact quillref24_Take.mono _ _
   | exact LeO.none _
   | refine LeO.ite ?_ ?_
   | refine LeO.bind ?_ (fun _ => ?_)
def quilllaw25_CodecBytes.T17 : Bool × List (List Nat × List Nat) := (true, [([], []), ([], []), ([], []), ([], []), ([2, 3], [2, 3]), ([4], [4]), ([], []), ([], []), ([6, 7], [6, 7]), ([8], [8]), ([9], [9]), ([5, 10], [5, 10]), ([0, 1, 0, 1, 2, 3, 4, 5, 6, 7, 8, 9, 10, 11], [0, 1]), ([12, 11, 0, 1, 2, 3, 4, 5, 6, 7, 8, 9, 10, 11], [11, 12])])
def quilllaw25_CodecBytes.B17 : List Nat := [0, 0, 0, 0, 12, 28, 0, 0, 192, 448, 960, 2044, 4095, 8191]
theorem quilllaw25_CodecBytes.tab17 : rtab .any (opsOf Try.f3 17) = quilllaw25_CodecBytes.T17 := by kernel_rfl
theorem quilllaw25_CodecBytes.bits17 : waitsOk quilllaw25_CodecBytes.T17.2 quilllaw25_CodecBytes.B17 = true := by kernel_rfl
def quilllaw25_CodecBytes.T19 : Bool × List (List Nat × List Nat) := (true, [([], []), ([0], [0]), ([], []), ([1, 2], [1, 2]), ([3, 1], [3]), ([4], [4]), ([4], [4]), ([5, 6, 4], [4, 5, 6]), ([4, 7], [4, 7]), ([8, 4], [8]), ([9], [9]), ([9], [9]), ([11, 9], [9, 11]), ([9], [9]), ([12, 13, 9], [9, 12, 13]), ([14, 9], [9, 14]), ([10, 15, 9, 9], [9, 10, 15]), ([16, 9], [9, 16]), ([9, 17], [9, 17])])
def quilllaw25_CodecBytes.B19 : List Nat := [0, 1, 0, 7, 15, 31, 31, 127, 255, 511, 1023, 1023, 3071, 1023, 15359, 31743, 65535, 131071, 262143]
theorem quilllaw25_CodecBytes.tab19 : rtab .any (opsOf Try.f3 19) = quilllaw25_CodecBytes.T19 := by kernel_rfl
theorem quilllaw25_CodecBytes.bits19 : waitsOk quilllaw25_CodecBytes.T19.2 quilllaw25_CodecBytes.B19 = true := by kernel_rfl
set_option maxHeartbeats 8000000 in
set_option maxRecDepth 100000 in
theorem quilllaw25_CodecBytes.calls (k : Nat) (A0_0 : Option Addr) (c0_0 : Nat) (l0_0 : List (S32)) (A0_1 : Option Addr) (c0_1 : Nat) (l0_1 : List ByteArray) (r : Bool) (w : World) (hr0_0 : Kd.C k32 w A0_0 l0_0.length l0_0) (hc0_0 : l0_0.length ≤ c0_0) (hr0_1 : Kd.C Kd.string w A0_1 l0_1.length l0_1) (hc0_1 : l0_1.length ≤ c0_1) (hr_ : r = true) (h : quilllaw25_CodecBytes.f k l0_0 l0_1 = some r) :
  Calls Try.prog 3 #[.agg #[.slice A0_0 l0_0.length c0_0, .slice A0_1 l0_1.length c0_1]] w fun e w' => e = .returned (.bool r) ∧ Below w.heap.size w w' := by
 have hu25 := Try.underlying25
 have hu32 := Try.underlying32
 have HR0_0 := Aside0.mk hr0_0
 have HC0_0 := Aside0.mk hc0_0
 clear hr0_0 hc0_0
 have HR0_1 := Aside0.mk hr0_1
 have HC0_1 := Aside0.mk hc0_1
 clear hr0_1 hc0_1
 have HRT := Aside0.mk hr_
 clear hr_
 have HB := Aside0.mk (Below.refl w.heap.size w)
 have H : ((quilllaw25_Heavy.f k l0_0 l0_1).bind fun t194 => (if t194 = true then (some true) else ((quillref0_CopyStrings.f k l0_1).bind fun t195 => (quilllaw25_CodecBytes.l0 k t195 0 l0_0 l0_1)))) = some r := h
 clear h
 replace H := Option.bind_eq_some_iff.mp H
 obtain ⟨t194, A20, H⟩ := H
 replace H : (if t194 = true then (some true) else ((quillref0_CopyStrings.f k l0_1).bind fun t195 => (quilllaw25_CodecBytes.l0 k t195 0 l0_0 l0_1))) = some r := H
 have A2 := Aside0.mk A20
 clear A20
 by_cases c3 : t194 = true
 ·
  subst c3
  have H1 : (some true) = some r := by rw [if_pos rfl] at H; exact H
  clear H
  have H := H1
  clear H1
  obtain rfl := Option.some.inj H
  go_enter Try.func3, Try.ntmps3
  go_wp2_with (first | ((with_reducible refine gate_dst (N := 1) rfl ?_); refine box_event ?hg (N := 1) ?hd (cs := #[.slice A0_0 l0_0.length c0_0, .slice A0_1 l0_1.length c0_1]) (t := 25) ?hr ?_; (case hd => rfl); (case hg => rfl); (case hr => first | (go_simp; done) | (go_simp; rfl)); intro gb193 hg w4 hbox hb; have n0_ := Aside0.mk (below_step (by repeat (first | (with_reducible first | exact HB.out | apply below_alloc | apply pw_below_drewN | apply below_drew1) | exact HB.out)) hb); have n1_ := Aside0.mk (hbox); have n2_ := Aside0.mk ((by rw [hg]; exact (below_size (by repeat (first | (with_reducible first | exact HB.out | apply below_alloc | apply pw_below_drewN | apply below_drew1) | exact HB.out))) : w.heap.size ≤ gb193)); have n3_ := Aside0.mk ((by rw [hg]; exact (below_size (by repeat (first | (with_reducible first | exact HB.out | apply below_alloc | apply pw_below_drewN | apply below_drew1) | exact HB.out))) : w.heap.size ≤ gb193)); clear HB; have HB := n0_; have BK193 := n1_; have GW193 := n2_; have GE193 := n3_; clear n0_ n1_ n2_ n3_; clear hb hbox hg; have hcz5_0 : w4.cell? ⟨gb193, 0, none⟩ = some (.slice A0_0 l0_0.length c0_0) := (blk_cell BK193.out 0).trans rfl; have hcz5_1 : w4.cell? ⟨gb193, 1, none⟩ = some (.slice A0_1 l0_1.length c0_1) := (blk_cell BK193.out 1).trans rfl; have hfz5_0 := blk_frozen BK193.out 0; have hfz5_1 := blk_frozen BK193.out 1) | ((with_reducible refine gate_callee (f := 8) rfl ?_); refine goesL_ (some 18) rfl rfl Try.func8 (by kernel_rfl) rfl #[.agg #[.slice A0_0 l0_0.length c0_0, .slice A0_1 l0_1.length c0_1]] rfl (by (try simp only [List.map_toArray, List.map_cons, List.map_nil]); first | done | rfl | (simp only [List.length_drop, List.length_take]; rfl)) ?_; (with_reducible refine (quilllaw25_Heavy.calls k _ _ l0_0 _ _ l0_1 true _ ?side1 ?side2 ?side3 ?side4 A2.out).mono ?_); (case side1 => repeat (first | exact (Kd.C_below HR0_0.out HB.out) | (with_reducible refine Kd.C_alloc ?_ _) | (with_reducible refine Kd.C_drewN ?_ _) | (with_reducible refine Kd.C_drew ?_))); (case side2 => exact HC0_0.out); (case side3 => repeat (first | exact (Kd.C_below HR0_1.out HB.out) | (with_reducible refine Kd.C_alloc ?_ _) | (with_reducible refine Kd.C_drewN ?_ _) | (with_reducible refine Kd.C_drew ?_))); (case side4 => exact HC0_1.out); rintro e w6 ⟨rfl, hb⟩; refine ⟨_, rfl, ?_⟩; have n0_ := Aside0.mk (blk_below (g := gb193) (o := .cells #[.slice A0_0 l0_0.length c0_0, .slice A0_1 l0_1.length c0_1] 25 (0, 0)) (by (with_reducible repeat (first | refine blk_drewN ?_ _ | refine blk_drew ?_ | refine blk_alloc ?_ _)); exact BK193.out) hb); have n1_ := Aside0.mk (below_step (by repeat (first | (with_reducible first | exact HB.out | apply below_alloc | apply pw_below_drewN | apply below_drew1 | refine below_set ?_ GE193.out) | exact HB.out)) hb); clear BK193; clear HB; have BK193 := n0_; have HB := n1_; clear n0_ n1_; (try clear hb); (try clear hb2); (try clear hk); (try clear hi)))
  go_ret
  exact ⟨by first | rfl | (simp [errW_none, errW_some] <;> rfl) | (simp [*, errW_none, errW_some] <;> rfl), by repeat (first | (with_reducible first | exact HB.out | apply below_alloc | apply pw_below_drewN | apply below_drew1 | refine below_set ?_ GE193.out) | exact HB.out)⟩
 ·
  replace c3 := Bool.eq_false_iff.mpr c3
  subst c3
  have H1 : ((quillref0_CopyStrings.f k l0_1).bind fun t195 => (quilllaw25_CodecBytes.l0 k t195 0 l0_0 l0_1)) = some r := by rw [if_neg (show ¬ (false = true) by decide)] at H; exact H
  clear H
  have H := H1
  clear H1
  replace H := Option.bind_eq_some_iff.mp H
  obtain ⟨t195, A70, H⟩ := H
  replace H : (quilllaw25_CodecBytes.l0 k t195 0 l0_0 l0_1) = some r := H
  have A7 := Aside0.mk A70
  clear A70
  have H' := Aside0.mk H
  clear H
  go_enter Try.func3, Try.ntmps3
  go_wp2_with (first | ((with_reducible refine gate_dst (N := 1) rfl ?_); refine box_event ?hg (N := 1) ?hd (cs := #[.slice A0_0 l0_0.length c0_0, .slice A0_1 l0_1.length c0_1]) (t := 25) ?hr ?_; (case hd => rfl); (case hg => rfl); (case hr => first | (go_simp; done) | (go_simp; rfl)); intro gb193 hg w8 hbox hb; have n0_ := Aside0.mk (below_step (by repeat (first | (with_reducible first | exact HB.out | apply below_alloc | apply pw_below_drewN | apply below_drew1) | exact HB.out)) hb); have n1_ := Aside0.mk (hbox); have n2_ := Aside0.mk ((by rw [hg]; exact (below_size (by repeat (first | (with_reducible first | exact HB.out | apply below_alloc | apply pw_below_drewN | apply below_drew1) | exact HB.out))) : w.heap.size ≤ gb193)); have n3_ := Aside0.mk ((by rw [hg]; exact (below_size (by repeat (first | (with_reducible first | exact HB.out | apply below_alloc | apply pw_below_drewN | apply below_drew1) | exact HB.out))) : w.heap.size ≤ gb193)); clear HB; have HB := n0_; have BK193 := n1_; have GW193 := n2_; have GE193 := n3_; clear n0_ n1_ n2_ n3_; clear hb hbox hg; have hcz9_0 : w8.cell? ⟨gb193, 0, none⟩ = some (.slice A0_0 l0_0.length c0_0) := (blk_cell BK193.out 0).trans rfl; have hcz9_1 : w8.cell? ⟨gb193, 1, none⟩ = some (.slice A0_1 l0_1.length c0_1) := (blk_cell BK193.out 1).trans rfl; have hfz9_0 := blk_frozen BK193.out 0; have hfz9_1 := blk_frozen BK193.out 1) | ((with_reducible refine gate_callee (f := 8) rfl ?_); refine goesL_ (some 18) rfl rfl Try.func8 (by kernel_rfl) rfl #[.agg #[.slice A0_0 l0_0.length c0_0, .slice A0_1 l0_1.length c0_1]] rfl (by (try simp only [List.map_toArray, List.map_cons, List.map_nil]); first | done | rfl | (simp only [List.length_drop, List.length_take]; rfl)) ?_; (with_reducible refine (quilllaw25_Heavy.calls k _ _ l0_0 _ _ l0_1 false _ ?side1 ?side2 ?side3 ?side4 A2.out).mono ?_); (case side1 => repeat (first | exact (Kd.C_below HR0_0.out HB.out) | (with_reducible refine Kd.C_alloc ?_ _) | (with_reducible refine Kd.C_drewN ?_ _) | (with_reducible refine Kd.C_drew ?_))); (case side2 => exact HC0_0.out); (case side3 => repeat (first | exact (Kd.C_below HR0_1.out HB.out) | (with_reducible refine Kd.C_alloc ?_ _) | (with_reducible refine Kd.C_drewN ?_ _) | (with_reducible refine Kd.C_drew ?_))); (case side4 => exact HC0_1.out); rintro e w10 ⟨rfl, hb⟩; refine ⟨_, rfl, ?_⟩; have n0_ := Aside0.mk (blk_below (g := gb193) (o := .cells #[.slice A0_0 l0_0.length c0_0, .slice A0_1 l0_1.length c0_1] 25 (0, 0)) (by (with_reducible repeat (first | refine blk_drewN ?_ _ | refine blk_drew ?_ | refine blk_alloc ?_ _)); exact BK193.out) hb); have n1_ := Aside0.mk (below_step (by repeat (first | (with_reducible first | exact HB.out | apply below_alloc | apply pw_below_drewN | apply below_drew1 | refine below_set ?_ GE193.out) | exact HB.out)) hb); clear BK193; clear HB; have BK193 := n0_; have HB := n1_; clear n0_ n1_; (try clear hb); (try clear hb2); (try clear hk); (try clear hi); have hcz11_0 : w10.cell? ⟨gb193, 0, none⟩ = some (.slice A0_0 l0_0.length c0_0) := (blk_cell BK193.out 0).trans rfl; have hcz11_1 : w10.cell? ⟨gb193, 1, none⟩ = some (.slice A0_1 l0_1.length c0_1) := (blk_cell BK193.out 1).trans rfl; have hfz11_0 := blk_frozen BK193.out 0; have hfz11_1 := blk_frozen BK193.out 1) | ((with_reducible refine gate_callee (f := 9) rfl ?_); refine goesL_ (some 21) rfl rfl Try.func9 (by kernel_rfl) rfl #[.slice A0_1 l0_1.length c0_1] rfl (by (try simp only [List.map_toArray, List.map_cons, List.map_nil]); first | done | rfl | (simp only [List.length_drop, List.length_take]; rfl)) ?_; (with_reducible refine (quillref0_CopyStrings.calls k _ _ l0_1 t195 _ ?side1 ?side2 A7.out).mono ?_); (case side1 => repeat (first | exact (Kd.C_below HR0_1.out HB.out) | (with_reducible refine Kd.C_alloc ?_ _) | (with_reducible refine Kd.C_drewN ?_ _) | (with_reducible refine Kd.C_drew ?_))); (case side2 => exact HC0_1.out); rintro e w12 ⟨v196, rfl, ho0, hb⟩; refine ⟨_, rfl, ?_⟩; have n0_ := Aside0.mk (Kd.R_lower ho0 (below_size (by repeat (first | (with_reducible first | exact HB.out | apply below_alloc | apply pw_below_drewN | apply below_drew1 | refine below_set ?_ GE193.out) | exact HB.out)))); have n1_ := Aside0.mk (blk_below (g := gb193) (o := .cells #[.slice A0_0 l0_0.length c0_0, .slice A0_1 l0_1.length c0_1] 25 (0, 0)) (by (with_reducible repeat (first | refine blk_drewN ?_ _ | refine blk_drew ?_ | refine blk_alloc ?_ _)); exact BK193.out) hb); have n2_ := Aside0.mk (below_step (by repeat (first | (with_reducible first | exact HB.out | apply below_alloc | apply pw_below_drewN | apply below_drew1 | refine below_set ?_ GE193.out) | exact HB.out)) hb); clear BK193; clear HB; have HO197 := n0_; have BK193 := n1_; have HB := n2_; clear n0_ n1_ n2_; (try clear hb); (try clear hb2); (try clear hk); (try clear hi); (try clear ho0)))
  go_loopg [3, 4] k (fun kq v3 v4 w' => ∃ (x3_1 : List ByteArray) (x4_1 : Int), v4 = .int .i64 x4_1 ∧ Aside0 (quilllaw25_CodecBytes.l0 kq x3_1 x4_1 l0_0 l0_1 = some r) ∧ Aside0 (kq ≤ k) ∧ Aside0 (Kd.R Kd.string 9 w' w.heap.size (fun _ => True) v3 x3_1) ∧ Aside0 (w'.heap[gb193]? = some (.cells #[(.slice A0_0 l0_0.length c0_0), (.slice A0_1 l0_1.length c0_1)] 25 (0, 0))) ∧ Aside0 (Below w.heap.size w w'))
  case atStart => exact ⟨(t195), (0), (by first | rfl | (simp; done) | (simp [*]; done)), H', ⟨Nat.le_refl _⟩, ⟨by (with_reducible repeat (first | apply Kd.R_alloc | apply Kd.R_drewN | apply Kd.R_drew)); exact HO197.out⟩, ⟨by (with_reducible repeat (first | refine blk_drewN ?_ _ | refine blk_drew ?_ | refine blk_alloc ?_ _)); exact BK193.out⟩, ⟨by repeat (first | (with_reducible first | exact HB.out | apply below_alloc | apply pw_below_drewN | apply below_drew1 | refine below_set ?_ GE193.out) | exact HB.out)⟩⟩
  case round =>
   clear H'
   try clear p2
   try clear c3
   try clear c8
   try clear c9
   try clear hcz11_0
   try clear hcz11_1
   try clear hcz5_0
   try clear hcz5_1
   try clear hcz9_0
   try clear hcz9_1
   try clear hfz11_0
   try clear hfz11_1
   try clear hfz5_0
   try clear hfz5_1
   try clear hfz9_0
   try clear hfz9_1
   obtain ⟨x3_1, x4_1, rfl, HA, HK1, HO_3, BK193, HB⟩ := hrel
   cases gk with
   | zero => exact absurd HA.out (by simp [quilllaw25_CodecBytes.l0])
   | succ k1 =>
    have H := HA.out
    clear HA
    simp only [quilllaw25_CodecBytes.l0] at H
    have HC13 := Aside0.mk H
    clear H
    go_upto_region 5 with (fail)
    go_cut [30] (fun v30 wc => ∃ (kq : Nat) (x30_12 : Bool), v30 = .bool x30_12 ∧ Aside0 (quilllaw25_CodecBytes.j1 kq x3_1 x4_1 x30_12 l0_0 l0_1 = some r) ∧ Aside0 (kq ≤ k1) ∧ Aside0 (Kd.R Kd.string 9 wc w.heap.size (fun _ => True) u3 x3_1) ∧ Aside0 (wc.heap[gb193]? = some (.cells #[(.slice A0_0 l0_0.length c0_0), (.slice A0_1 l0_1.length c0_1)] 25 (0, 0))) ∧ Aside0 (Below w.heap.size w wc))
    case first =>
     have H := HC13.out
     clear HC13
     by_cases c14 : x4_1 < (l0_0.length : Int)
     ·
      rw [if_pos c14] at H
      have c14b0 : decide (x4_1 < (l0_0.length : Int)) = true := decide_eq_true c14
      clear c14
      (first | rw [c14b0] | (simp only [i64_w, i32_w]; rw [c14b0]) | skip)
      have H' := Aside0.mk H
      clear H
      have hcz15_0 : wr.cell? ⟨gb193, 0, none⟩ = some (.slice A0_0 l0_0.length c0_0) := (blk_cell BK193.out 0).trans rfl
      have hcz15_1 : wr.cell? ⟨gb193, 1, none⟩ = some (.slice A0_1 l0_1.length c0_1) := (blk_cell BK193.out 1).trans rfl
      have hfz15_0 := blk_frozen BK193.out 0
      have hfz15_1 := blk_frozen BK193.out 1
      go_wp2
      go_meet
      case rel => exact ⟨_, (decide (x4_1 < 8)), (by first | rfl | (simp; done) | (simp [*]; done)), H', ⟨by have := HK1.out; first | omega | exact Nat.le_refl _⟩, ⟨by (with_reducible repeat (first | apply Kd.R_alloc | apply Kd.R_drewN | apply Kd.R_drew)); exact HO_3.out⟩, ⟨by (with_reducible repeat (first | refine blk_drewN ?_ _ | refine blk_drew ?_ | refine blk_alloc ?_ _)); exact BK193.out⟩, ⟨by repeat (first | (with_reducible first | exact HB.out | apply below_alloc | apply pw_below_drewN | apply below_drew1 | refine below_set ?_ GE193.out) | exact HB.out)⟩⟩
     ·
      rw [if_neg c14] at H
      have c14b0 : decide (x4_1 < (l0_0.length : Int)) = false := decide_eq_false c14
      clear c14
      (first | rw [c14b0] | (simp only [i64_w, i32_w]; rw [c14b0]) | skip)
      have H' := Aside0.mk H
      clear H
      have hcz16_0 : wr.cell? ⟨gb193, 0, none⟩ = some (.slice A0_0 l0_0.length c0_0) := (blk_cell BK193.out 0).trans rfl
      have hcz16_1 : wr.cell? ⟨gb193, 1, none⟩ = some (.slice A0_1 l0_1.length c0_1) := (blk_cell BK193.out 1).trans rfl
      have hfz16_0 := blk_frozen BK193.out 0
      have hfz16_1 := blk_frozen BK193.out 1
      go_wp2
      go_meet
      case rel => exact ⟨_, (false), (by first | rfl | (simp; done) | (simp [*]; done)), H', ⟨by have := HK1.out; first | omega | exact Nat.le_refl _⟩, ⟨by (with_reducible repeat (first | apply Kd.R_alloc | apply Kd.R_drewN | apply Kd.R_drew)); exact HO_3.out⟩, ⟨by (with_reducible repeat (first | refine blk_drewN ?_ _ | refine blk_drew ?_ | refine blk_alloc ?_ _)); exact BK193.out⟩, ⟨by repeat (first | (with_reducible first | exact HB.out | apply below_alloc | apply pw_below_drewN | apply below_drew1 | refine below_set ?_ GE193.out) | exact HB.out)⟩⟩
    case rest =>
     clear HC13
     try clear c1
     try clear p2
     try clear c3
     try clear c8
     try clear c9
     try clear c14
     try clear c14b0
     try clear hcz11_0
     try clear hcz11_1
     try clear hcz15_0
     try clear hcz15_1
     try clear hcz16_0
     try clear hcz16_1
     try clear hcz5_0
     try clear hcz5_1
     try clear hcz9_0
     try clear hcz9_1
     try clear hfz11_0
     try clear hfz11_1
     try clear hfz15_0
     try clear hfz15_1
     try clear hfz16_0
     try clear hfz16_1
     try clear hfz5_0
     try clear hfz5_1
     try clear hfz9_0
     try clear hfz9_1
     try clear p2
     obtain ⟨kq, x30_12, rfl, HA, HJ12, HO_3, BK193, HB⟩ := hcut
     cases kq with
     | zero => exact absurd HA.out (by simp [quilllaw25_CodecBytes.j1])
     | succ kj12 =>
      have H := HA.out
      clear HA
      simp only [quilllaw25_CodecBytes.j1] at H
      by_cases c17 : x30_12 = true
      ·
       subst c17
       have H1 : (if 0 ≤ x4_1 then (if x4_1 < (l0_0.length : Int) then ((quillref0_CopyOp.f kj12 ((rd_T32 l0_0 x4_1).f0) ((rd_T32 l0_0 x4_1).f1.f0) ((rd_T32 l0_0 x4_1).f1.f1) ((rd_T32 l0_0 x4_1).f2.f0) ((rd_T32 l0_0 x4_1).f2.f1) ((rd_T32 l0_0 x4_1).f3) ((rd_T32 l0_0 x4_1).f4) ((rd_T32 l0_0 x4_1).f5) ((rd_T32 l0_0 x4_1).f6)).bind fun bt199 => ((codec_Bytes.f bt199.1 bt199.2.1 bt199.2.2.1 bt199.2.2.2.1 bt199.2.2.2.2.1 bt199.2.2.2.2.2.1 bt199.2.2.2.2.2.2.1 bt199.2.2.2.2.2.2.2.1 bt199.2.2.2.2.2.2.2.2).bind fun bt211 => ((quillref24_Op.f kj12 ((rd_T32 l0_0 x4_1).f0) ((rd_T32 l0_0 x4_1).f1.f0) ((rd_T32 l0_0 x4_1).f1.f1) ((rd_T32 l0_0 x4_1).f2.f0) ((rd_T32 l0_0 x4_1).f2.f1) ((rd_T32 l0_0 x4_1).f3) ((rd_T32 l0_0 x4_1).f4) ((rd_T32 l0_0 x4_1).f5) ((rd_T32 l0_0 x4_1).f6)).bind fun t214 => (if t214 = true then ((quillref24_Bytes.f kj12 ((rd_T32 l0_0 x4_1).f0) ((rd_T32 l0_0 x4_1).f1.f0) ((rd_T32 l0_0 x4_1).f1.f1) ((rd_T32 l0_0 x4_1).f2.f0) ((rd_T32 l0_0 x4_1).f2.f1) ((rd_T32 l0_0 x4_1).f3) ((rd_T32 l0_0 x4_1).f4) ((rd_T32 l0_0 x4_1).f5) ((rd_T32 l0_0 x4_1).f6)).bind fun t216 => (if t216.size + 1 ≤ 9223372036854775807 then (if 0 ≤ 20 then (if 20 ≤ (t216.size : Int) then ((some (([t216, t216 ++ (⟨#[120]⟩ : ByteArray), t216.extract 0 20] : List ByteArray) : List ByteArray)).bind fun y217 => (if x3_1.length + y217.length < 8796093022208 then (quilllaw25_CodecBytes.l1 kj12 (x3_1 ++ y217) x4_1 bt211.1 bt211.2 0 t216 0 l0_0 l0_1 bt199.1 bt199.2.1 bt199.2.2.1 bt199.2.2.2.1 bt199.2.2.2.2.1 bt199.2.2.2.2.2.1 bt199.2.2.2.2.2.2.1 bt199.2.2.2.2.2.2.2.1 bt199.2.2.2.2.2.2.2.2) else (none))) else (none)) else (none)) else (none))) else (quilllaw25_CodecBytes.j3 kj12 x3_1 x4_1 bt211.1 bt211.2 1 (⟨#[]⟩ : ByteArray) l0_0 l0_1 bt199.1 bt199.2.1 bt199.2.2.1 bt199.2.2.2.1 bt199.2.2.2.2.1 bt199.2.2.2.2.2.1 bt199.2.2.2.2.2.2.1 bt199.2.2.2.2.2.2.2.1 bt199.2.2.2.2.2.2.2.2))))) else (none)) else (none)) = some r := by rw [if_pos rfl] at H; exact H
       clear H
       have H := H1
       clear H1
       by_cases c18 : 0 ≤ x4_1
       ·
        rw [if_pos c18] at H
        have c18b0 : decide (0 ≤ x4_1) = true := decide_eq_true c18
        clear c18
        by_cases c19 : x4_1 < (l0_0.length : Int)
        ·
         rw [if_pos c19] at H
         have c19b0 : decide (x4_1 < (l0_0.length : Int)) = true := decide_eq_true c19
         clear c19
         replace H := Option.bind_eq_some_iff.mp H
         obtain ⟨⟨t199, t200, t201, t202, t203, t204, t205, t206, t207⟩, A200, H⟩ := H
         replace H : ((codec_Bytes.f t199 t200 t201 t202 t203 t204 t205 t206 t207).bind fun bt211 => ((quillref24_Op.f kj12 ((rd_T32 l0_0 x4_1).f0) ((rd_T32 l0_0 x4_1).f1.f0) ((rd_T32 l0_0 x4_1).f1.f1) ((rd_T32 l0_0 x4_1).f2.f0) ((rd_T32 l0_0 x4_1).f2.f1) ((rd_T32 l0_0 x4_1).f3) ((rd_T32 l0_0 x4_1).f4) ((rd_T32 l0_0 x4_1).f5) ((rd_T32 l0_0 x4_1).f6)).bind fun t214 => (if t214 = true then ((quillref24_Bytes.f kj12 ((rd_T32 l0_0 x4_1).f0) ((rd_T32 l0_0 x4_1).f1.f0) ((rd_T32 l0_0 x4_1).f1.f1) ((rd_T32 l0_0 x4_1).f2.f0) ((rd_T32 l0_0 x4_1).f2.f1) ((rd_T32 l0_0 x4_1).f3) ((rd_T32 l0_0 x4_1).f4) ((rd_T32 l0_0 x4_1).f5) ((rd_T32 l0_0 x4_1).f6)).bind fun t216 => (if t216.size + 1 ≤ 9223372036854775807 then (if 0 ≤ 20 then (if 20 ≤ (t216.size : Int) then ((some (([t216, t216 ++ (⟨#[120]⟩ : ByteArray), t216.extract 0 20] : List ByteArray) : List ByteArray)).bind fun y217 => (if x3_1.length + y217.length < 8796093022208 then (quilllaw25_CodecBytes.l1 kj12 (x3_1 ++ y217) x4_1 bt211.1 bt211.2 0 t216 0 l0_0 l0_1 t199 t200 t201 t202 t203 t204 t205 t206 t207) else (none))) else (none)) else (none)) else (none))) else (quilllaw25_CodecBytes.j3 kj12 x3_1 x4_1 bt211.1 bt211.2 1 (⟨#[]⟩ : ByteArray) l0_0 l0_1 t199 t200 t201 t202 t203 t204 t205 t206 t207)))) = some r := H
         have A20 := Aside0.mk A200
         clear A200
         replace H := Option.bind_eq_some_iff.mp H
         obtain ⟨⟨t211, t212⟩, A210, H⟩ := H
         replace H : ((quillref24_Op.f kj12 ((rd_T32 l0_0 x4_1).f0) ((rd_T32 l0_0 x4_1).f1.f0) ((rd_T32 l0_0 x4_1).f1.f1) ((rd_T32 l0_0 x4_1).f2.f0) ((rd_T32 l0_0 x4_1).f2.f1) ((rd_T32 l0_0 x4_1).f3) ((rd_T32 l0_0 x4_1).f4) ((rd_T32 l0_0 x4_1).f5) ((rd_T32 l0_0 x4_1).f6)).bind fun t214 => (if t214 = true then ((quillref24_Bytes.f kj12 ((rd_T32 l0_0 x4_1).f0) ((rd_T32 l0_0 x4_1).f1.f0) ((rd_T32 l0_0 x4_1).f1.f1) ((rd_T32 l0_0 x4_1).f2.f0) ((rd_T32 l0_0 x4_1).f2.f1) ((rd_T32 l0_0 x4_1).f3) ((rd_T32 l0_0 x4_1).f4) ((rd_T32 l0_0 x4_1).f5) ((rd_T32 l0_0 x4_1).f6)).bind fun t216 => (if t216.size + 1 ≤ 9223372036854775807 then (if 0 ≤ 20 then (if 20 ≤ (t216.size : Int) then ((some (([t216, t216 ++ (⟨#[120]⟩ : ByteArray), t216.extract 0 20] : List ByteArray) : List ByteArray)).bind fun y217 => (if x3_1.length + y217.length < 8796093022208 then (quilllaw25_CodecBytes.l1 kj12 (x3_1 ++ y217) x4_1 t211 t212 0 t216 0 l0_0 l0_1 t199 t200 t201 t202 t203 t204 t205 t206 t207) else (none))) else (none)) else (none)) else (none))) else (quilllaw25_CodecBytes.j3 kj12 x3_1 x4_1 t211 t212 1 (⟨#[]⟩ : ByteArray) l0_0 l0_1 t199 t200 t201 t202 t203 t204 t205 t206 t207))) = some r := H
         have A21 := Aside0.mk A210
         clear A210
         replace H := Option.bind_eq_some_iff.mp H
         obtain ⟨t214, A220, H⟩ := H
         replace H : (if t214 = true then ((quillref24_Bytes.f kj12 ((rd_T32 l0_0 x4_1).f0) ((rd_T32 l0_0 x4_1).f1.f0) ((rd_T32 l0_0 x4_1).f1.f1) ((rd_T32 l0_0 x4_1).f2.f0) ((rd_T32 l0_0 x4_1).f2.f1) ((rd_T32 l0_0 x4_1).f3) ((rd_T32 l0_0 x4_1).f4) ((rd_T32 l0_0 x4_1).f5) ((rd_T32 l0_0 x4_1).f6)).bind fun t216 => (if t216.size + 1 ≤ 9223372036854775807 then (if 0 ≤ 20 then (if 20 ≤ (t216.size : Int) then ((some (([t216, t216 ++ (⟨#[120]⟩ : ByteArray), t216.extract 0 20] : List ByteArray) : List ByteArray)).bind fun y217 => (if x3_1.length + y217.length < 8796093022208 then (quilllaw25_CodecBytes.l1 kj12 (x3_1 ++ y217) x4_1 t211 t212 0 t216 0 l0_0 l0_1 t199 t200 t201 t202 t203 t204 t205 t206 t207) else (none))) else (none)) else (none)) else (none))) else (quilllaw25_CodecBytes.j3 kj12 x3_1 x4_1 t211 t212 1 (⟨#[]⟩ : ByteArray) l0_0 l0_1 t199 t200 t201 t202 t203 t204 t205 t206 t207)) = some r := H
         have A22 := Aside0.mk A220
         clear A220
         have HC23 := Aside0.mk H
         clear H
         have hcz24_0 : wc.cell? ⟨gb193, 0, none⟩ = some (.slice A0_0 l0_0.length c0_0) := (blk_cell BK193.out 0).trans rfl
         have hcz24_1 : wc.cell? ⟨gb193, 1, none⟩ = some (.slice A0_1 l0_1.length c0_1) := (blk_cell BK193.out 1).trans rfl
         have hfz24_0 := blk_frozen BK193.out 0
         have hfz24_1 := blk_frozen BK193.out 1
         have p198 : 0 ≤ (x4_1 : Int) := of_decide_eq_true (by first | (with_reducible assumption) | assumption)
         have q198 : x4_1 < (l0_0.length : Int) := of_decide_eq_true (by first | (with_reducible assumption) | assumption)
         obtain ⟨ad198, A198_8, c198_8, e198, hx198_0, hx198_1, hx198_2, hx198_3, hx198_4, hx198_5, hx198_6, hx198_7, hx198_8, hl198_8, hi198_8⟩ := at_T32 HR0_0.out x4_1 p198 q198
         cases e198
         replace hx198_0 := (HB.out.cell (World.block_lt_of_cell? w _ hx198_0)).trans hx198_0
         replace hx198_1 := (HB.out.cell (World.block_lt_of_cell? w _ hx198_1)).trans hx198_1
         replace hx198_2 := (HB.out.cell (World.block_lt_of_cell? w _ hx198_2)).trans hx198_2
         replace hx198_3 := (HB.out.cell (World.block_lt_of_cell? w _ hx198_3)).trans hx198_3
         replace hx198_4 := (HB.out.cell (World.block_lt_of_cell? w _ hx198_4)).trans hx198_4
         replace hx198_5 := (HB.out.cell (World.block_lt_of_cell? w _ hx198_5)).trans hx198_5
         replace hx198_6 := (HB.out.cell (World.block_lt_of_cell? w _ hx198_6)).trans hx198_6
         replace hx198_7 := (HB.out.cell (World.block_lt_of_cell? w _ hx198_7)).trans hx198_7
         replace hx198_8 := (HB.out.cell (World.block_lt_of_cell? w _ hx198_8)).trans hx198_8
         have HR198_8 := Aside0.mk hi198_8
         have HC198_8 := Aside0.mk hl198_8
         clear hi198_8 hl198_8
         replace p198 := eq_true p198
         replace q198 := eq_true q198
         go_upto_if 49 with (first | ((with_reducible refine gate_callee (f := 10) rfl ?_); refine goesL_ (some 38) rfl rfl Try.func10 (by kernel_rfl) rfl #[.agg #[.int .i64 ((rd_T32 l0_0 x4_1).f0), .int .i64 ((rd_T32 l0_0 x4_1).f1.f0), .int .i64 ((rd_T32 l0_0 x4_1).f1.f1), .int .i64 ((rd_T32 l0_0 x4_1).f2.f0), .int .i64 ((rd_T32 l0_0 x4_1).f2.f1), .int .i64 ((rd_T32 l0_0 x4_1).f3), .int .i64 ((rd_T32 l0_0 x4_1).f4), .int .i64 ((rd_T32 l0_0 x4_1).f5), .slice A198_8 ((rd_T32 l0_0 x4_1).f6).length c198_8]] rfl (by (try simp only [List.map_toArray, List.map_cons, List.map_nil]); first | done | rfl | (simp only [List.length_drop, List.length_take]; rfl)) ?_; (with_reducible refine (quillref0_CopyOp.calls kj12 ((rd_T32 l0_0 x4_1).f0) ((rd_T32 l0_0 x4_1).f1.f0) ((rd_T32 l0_0 x4_1).f1.f1) ((rd_T32 l0_0 x4_1).f2.f0) ((rd_T32 l0_0 x4_1).f2.f1) ((rd_T32 l0_0 x4_1).f3) ((rd_T32 l0_0 x4_1).f4) ((rd_T32 l0_0 x4_1).f5) _ _ ((rd_T32 l0_0 x4_1).f6) t199 t200 t201 t202 t203 t204 t205 t206 t207 _ ?side1 ?side2 A20.out).mono ?_); (case side1 => repeat (first | exact (Kd.C_below HR198_8.out HB.out) | (with_reducible refine Kd.C_alloc ?_ _) | (with_reducible refine Kd.C_drewN ?_ _) | (with_reducible refine Kd.C_drew ?_))); (case side2 => exact HC198_8.out); rintro e w25 ⟨v208, rfl, ho0, hb⟩; refine ⟨_, rfl, ?_⟩; have n0_ := Aside0.mk (Kd.R_below (by (with_reducible repeat (first | apply Kd.R_alloc | apply Kd.R_drewN | apply Kd.R_drew)); exact HO_3.out) hb); have n1_ := Aside0.mk (Kd.R_lower ho0 (below_size (by repeat (first | (with_reducible first | exact HB.out | apply below_alloc | apply pw_below_drewN | apply below_drew1 | refine below_set ?_ GE193.out) | exact HB.out)))); have n2_ := Aside0.mk (blk_below (g := gb193) (o := .cells #[.slice (some ad198) l0_0.length c0_0, .slice A0_1 l0_1.length c0_1] 25 (0, 0)) (by (with_reducible repeat (first | refine blk_drewN ?_ _ | refine blk_drew ?_ | refine blk_alloc ?_ _)); exact BK193.out) hb); have n3_ := Aside0.mk (below_step (by repeat (first | (with_reducible first | exact HB.out | apply below_alloc | apply pw_below_drewN | apply below_drew1 | refine below_set ?_ GE193.out) | exact HB.out)) hb); clear HO_3; clear BK193; clear HB; have HO_3 := n0_; have HO209 := n1_; have BK193 := n2_; have HB := n3_; clear n0_ n1_ n2_ n3_; (try clear hb); (try clear hb2); (try clear hk); (try clear hi); (try clear ho0)) | ((with_reducible refine gate_dst (N := 5) rfl ?_); refine box_event ?hg (N := 5) ?hd (cs := #[.int .i64 0, .int .i64 0, .int .i64 0, .int .i64 0, .int .i64 0, .int .i64 0, .int .i64 0, .int .i64 0, .slice none 0 0]) (t := 32) ?hr ?_; (case hd => rfl); (case hg => rfl); (case hr => first | (go_simp; done) | (go_simp; rfl)); intro gb210 hg w26 hbox hb; have n0_ := Aside0.mk (Kd.R_below (by (with_reducible repeat (first | apply Kd.R_alloc | apply Kd.R_drewN | apply Kd.R_drew)); exact HO_3.out) hb); have n1_ := Aside0.mk (Kd.R_below (by (with_reducible repeat (first | apply Kd.R_alloc | apply Kd.R_drewN | apply Kd.R_drew)); exact HO209.out) hb); have n2_ := Aside0.mk (blk_below (g := gb193) (o := .cells #[.slice (some ad198) l0_0.length c0_0, .slice A0_1 l0_1.length c0_1] 25 (0, 0)) (by (with_reducible repeat (first | refine blk_drewN ?_ _ | refine blk_drew ?_ | refine blk_alloc ?_ _)); exact BK193.out) hb); have n3_ := Aside0.mk (below_step (by repeat (first | (with_reducible first | exact HB.out | apply below_alloc | apply pw_below_drewN | apply below_drew1 | refine below_set ?_ GE193.out) | exact HB.out)) hb); have n4_ := Aside0.mk (hbox); have n5_ := Aside0.mk ((by rw [hg]; exact (below_size (by repeat (first | (with_reducible first | exact HB.out | apply below_alloc | apply pw_below_drewN | apply below_drew1 | refine below_set ?_ GE193.out) | exact HB.out))) : w.heap.size ≤ gb210)); have n6_ := Aside0.mk ((by rw [hg]; exact (below_size (by repeat (first | (with_reducible first | exact HB.out | apply below_alloc | apply pw_below_drewN | apply below_drew1 | refine below_set ?_ GE193.out) | exact HB.out))) : w.heap.size ≤ gb210)); have n7_ := Aside0.mk ((by rw [hg]; exact Nat.ne_of_lt (blk_lt (g := gb193) (o := .cells #[.slice (some ad198) l0_0.length c0_0, .slice A0_1 l0_1.length c0_1] 25 (0, 0)) (by (with_reducible repeat (first | refine blk_drewN ?_ _ | refine blk_drew ?_ | refine blk_alloc ?_ _)); exact BK193.out)) : gb193 ≠ gb210)); have n8_ := Aside0.mk ((by rw [hg]; exact Nat.ne_of_gt (blk_lt (g := gb193) (o := .cells #[.slice (some ad198) l0_0.length c0_0, .slice A0_1 l0_1.length c0_1] 25 (0, 0)) (by (with_reducible repeat (first | refine blk_drewN ?_ _ | refine blk_drew ?_ | refine blk_alloc ?_ _)); exact BK193.out)) : gb210 ≠ gb193)); clear HO_3; clear HO209; clear BK193; clear HB; have HO_3 := n0_; have HO209 := n1_; have BK193 := n2_; have HB := n3_; have BK210 := n4_; have GW210 := n5_; have GE210 := n6_; have NB193_210 := n7_; have NB210_193 := n8_; clear n0_ n1_ n2_ n3_ n4_ n5_ n6_ n7_ n8_; clear hb hbox hg; have hnb27 := NB210_193.out; have hnc27 := NB193_210.out; have hcz28_0 : w26.cell? ⟨gb210, 0, none⟩ = some (.int .i64 0) := (blk_cell BK210.out 0).trans rfl; have hcz28_1 : w26.cell? ⟨gb210, 1, none⟩ = some (.int .i64 0) := (blk_cell BK210.out 1).trans rfl; have hcz28_2 : w26.cell? ⟨gb210, 2, none⟩ = some (.int .i64 0) := (blk_cell BK210.out 2).trans rfl; have hcz28_3 : w26.cell? ⟨gb210, 3, none⟩ = some (.int .i64 0) := (blk_cell BK210.out 3).trans rfl; have hcz28_4 : w26.cell? ⟨gb210, 4, none⟩ = some (.int .i64 0) := (blk_cell BK210.out 4).trans rfl; have hcz28_5 : w26.cell? ⟨gb210, 5, none⟩ = some (.int .i64 0) := (blk_cell BK210.out 5).trans rfl; have hcz28_6 : w26.cell? ⟨gb210, 6, none⟩ = some (.int .i64 0) := (blk_cell BK210.out 6).trans rfl; have hcz28_7 : w26.cell? ⟨gb210, 7, none⟩ = some (.int .i64 0) := (blk_cell BK210.out 7).trans rfl; have hcz28_8 : w26.cell? ⟨gb210, 8, none⟩ = some (.slice none 0 0) := (blk_cell BK210.out 8).trans rfl; have hfz28_0 := blk_frozen BK210.out 0; have hfz28_1 := blk_frozen BK210.out 1; have hfz28_2 := blk_frozen BK210.out 2; have hfz28_3 := blk_frozen BK210.out 3; have hfz28_4 := blk_frozen BK210.out 4; have hfz28_5 := blk_frozen BK210.out 5; have hfz28_6 := blk_frozen BK210.out 6; have hfz28_7 := blk_frozen BK210.out 7; have hfz28_8 := blk_frozen BK210.out 8; obtain ⟨Ao29, co29, eo29⟩ := Kd.R_slice HO209.out; subst eo29) | ((with_reducible refine gate_callee (f := 11) rfl ?_); refine goesL_ (some 41) rfl rfl Try.func11 (by kernel_rfl) rfl #[.agg #[.int .i64 t199, .int .i64 t200, .int .i64 t201, .int .i64 t202, .int .i64 t203, .int .i64 t204, .int .i64 t205, .int .i64 t206, .slice Ao29 t207.length co29]] rfl (by (try simp only [List.map_toArray, List.map_cons, List.map_nil]); first | done | rfl | (simp only [List.length_drop, List.length_take]; rfl)) ?_; (with_reducible refine (codec_Bytes.calls t199 t200 t201 t202 t203 t204 t205 t206 _ _ t207 t211 t212 _ ?side1 ?side2 A21.out).mono ?_); (case side1 => refine (Kd.R_reads' (e := 3) (base := w.heap.size) (ok := fun k_ => True) (n := t207.length) (c := co29) ?_).2.2; exact (by (with_reducible repeat (first | apply Kd.R_alloc | apply Kd.R_drewN | apply Kd.R_drew)); exact (Kd.R_mono (Kd.R_far (p := ⟨gb210, 8, none⟩) (Kd.R_far (p := ⟨gb210, 7, none⟩) (Kd.R_far (p := ⟨gb210, 6, none⟩) (Kd.R_far (p := ⟨gb210, 5, none⟩) (Kd.R_far (p := ⟨gb210, 4, none⟩) (Kd.R_far (p := ⟨gb210, 3, none⟩) (Kd.R_far (p := ⟨gb210, 2, none⟩) (Kd.R_far (p := ⟨gb210, 1, none⟩) (Kd.R_far (p := ⟨gb210, 0, none⟩) (Kd.R_types HO209.out BK210.out (by decide)) (fun _ hk => hk.2) (.int .i64 t199)) (fun _ hk => hk.2) (.int .i64 t200)) (fun _ hk => hk.2) (.int .i64 t201)) (fun _ hk => hk.2) (.int .i64 t202)) (fun _ hk => hk.2) (.int .i64 t203)) (fun _ hk => hk.2) (.int .i64 t204)) (fun _ hk => hk.2) (.int .i64 t205)) (fun _ hk => hk.2) (.int .i64 t206)) (fun _ hk => hk.2) (.slice Ao29 t207.length co29)) (fun _ h_ => h_.1)))); (case side2 => exact (Kd.R_reads' HO209.out).2.1); rintro e w30 ⟨rfl, hb⟩; refine ⟨_, rfl, ?_⟩; have n0_ := Aside0.mk (Kd.R_below (by (with_reducible repeat (first | apply Kd.R_alloc | apply Kd.R_drewN | apply Kd.R_drew)); exact (Kd.R_mono (Kd.R_far (p := ⟨gb210, 8, none⟩) (Kd.R_far (p := ⟨gb210, 7, none⟩) (Kd.R_far (p := ⟨gb210, 6, none⟩) (Kd.R_far (p := ⟨gb210, 5, none⟩) (Kd.R_far (p := ⟨gb210, 4, none⟩) (Kd.R_far (p := ⟨gb210, 3, none⟩) (Kd.R_far (p := ⟨gb210, 2, none⟩) (Kd.R_far (p := ⟨gb210, 1, none⟩) (Kd.R_far (p := ⟨gb210, 0, none⟩) (Kd.R_types HO_3.out BK210.out (by decide)) (fun _ hk => hk.2) (.int .i64 t199)) (fun _ hk => hk.2) (.int .i64 t200)) (fun _ hk => hk.2) (.int .i64 t201)) (fun _ hk => hk.2) (.int .i64 t202)) (fun _ hk => hk.2) (.int .i64 t203)) (fun _ hk => hk.2) (.int .i64 t204)) (fun _ hk => hk.2) (.int .i64 t205)) (fun _ hk => hk.2) (.int .i64 t206)) (fun _ hk => hk.2) (.slice Ao29 t207.length co29)) (fun _ h_ => h_.1))) hb); have n1_ := Aside0.mk (Kd.R_below (by (with_reducible repeat (first | apply Kd.R_alloc | apply Kd.R_drewN | apply Kd.R_drew)); exact (Kd.R_mono (Kd.R_far (p := ⟨gb210, 8, none⟩) (Kd.R_far (p := ⟨gb210, 7, none⟩) (Kd.R_far (p := ⟨gb210, 6, none⟩) (Kd.R_far (p := ⟨gb210, 5, none⟩) (Kd.R_far (p := ⟨gb210, 4, none⟩) (Kd.R_far (p := ⟨gb210, 3, none⟩) (Kd.R_far (p := ⟨gb210, 2, none⟩) (Kd.R_far (p := ⟨gb210, 1, none⟩) (Kd.R_far (p := ⟨gb210, 0, none⟩) (Kd.R_types HO209.out BK210.out (by decide)) (fun _ hk => hk.2) (.int .i64 t199)) (fun _ hk => hk.2) (.int .i64 t200)) (fun _ hk => hk.2) (.int .i64 t201)) (fun _ hk => hk.2) (.int .i64 t202)) (fun _ hk => hk.2) (.int .i64 t203)) (fun _ hk => hk.2) (.int .i64 t204)) (fun _ hk => hk.2) (.int .i64 t205)) (fun _ hk => hk.2) (.int .i64 t206)) (fun _ hk => hk.2) (.slice Ao29 t207.length co29)) (fun _ h_ => h_.1))) hb); have n2_ := Aside0.mk (blk_below (g := gb193) (o := .cells #[.slice (some ad198) l0_0.length c0_0, .slice A0_1 l0_1.length c0_1] 25 (0, 0)) (by (with_reducible repeat (first | refine blk_drewN ?_ _ | refine blk_drew ?_ | refine blk_alloc ?_ _)); refine blk_far ?_ NB193_210.out _; (with_reducible repeat (first | refine blk_drewN ?_ _ | refine blk_drew ?_ | refine blk_alloc ?_ _)); refine blk_far ?_ NB193_210.out _; (with_reducible repeat (first | refine blk_drewN ?_ _ | refine blk_drew ?_ | refine blk_alloc ?_ _)); refine blk_far ?_ NB193_210.out _; (with_reducible repeat (first | refine blk_drewN ?_ _ | refine blk_drew ?_ | refine blk_alloc ?_ _)); refine blk_far ?_ NB193_210.out _; (with_reducible repeat (first | refine blk_drewN ?_ _ | refine blk_drew ?_ | refine blk_alloc ?_ _)); refine blk_far ?_ NB193_210.out _; (with_reducible repeat (first | refine blk_drewN ?_ _ | refine blk_drew ?_ | refine blk_alloc ?_ _)); refine blk_far ?_ NB193_210.out _; (with_reducible repeat (first | refine blk_drewN ?_ _ | refine blk_drew ?_ | refine blk_alloc ?_ _)); refine blk_far ?_ NB193_210.out _; (with_reducible repeat (first | refine blk_drewN ?_ _ | refine blk_drew ?_ | refine blk_alloc ?_ _)); refine blk_far ?_ NB193_210.out _; (with_reducible repeat (first | refine blk_drewN ?_ _ | refine blk_drew ?_ | refine blk_alloc ?_ _)); refine blk_far ?_ NB193_210.out _; (with_reducible repeat (first | refine blk_drewN ?_ _ | refine blk_drew ?_ | refine blk_alloc ?_ _)); exact BK193.out) hb); have n3_ := Aside0.mk (blk_below (g := gb210) (o := .cells #[.int .i64 t199, .int .i64 t200, .int .i64 t201, .int .i64 t202, .int .i64 t203, .int .i64 t204, .int .i64 t205, .int .i64 t206, .slice Ao29 t207.length co29] 32 (0, 0)) (by (with_reducible repeat (first | refine blk_drewN ?_ _ | refine blk_drew ?_ | refine blk_alloc ?_ _)); refine blk_put (cs := #[.int .i64 t199, .int .i64 t200, .int .i64 t201, .int .i64 t202, .int .i64 t203, .int .i64 t204, .int .i64 t205, .int .i64 t206, .slice none 0 0]) ?_ 8 _ rfl; (with_reducible repeat (first | refine blk_drewN ?_ _ | refine blk_drew ?_ | refine blk_alloc ?_ _)); refine blk_put (cs := #[.int .i64 t199, .int .i64 t200, .int .i64 t201, .int .i64 t202, .int .i64 t203, .int .i64 t204, .int .i64 t205, .int .i64 0, .slice none 0 0]) ?_ 7 _ rfl; (with_reducible repeat (first | refine blk_drewN ?_ _ | refine blk_drew ?_ | refine blk_alloc ?_ _)); refine blk_put (cs := #[.int .i64 t199, .int .i64 t200, .int .i64 t201, .int .i64 t202, .int .i64 t203, .int .i64 t204, .int .i64 0, .int .i64 0, .slice none 0 0]) ?_ 6 _ rfl; (with_reducible repeat (first | refine blk_drewN ?_ _ | refine blk_drew ?_ | refine blk_alloc ?_ _)); refine blk_put (cs := #[.int .i64 t199, .int .i64 t200, .int .i64 t201, .int .i64 t202, .int .i64 t203, .int .i64 0, .int .i64 0, .int .i64 0, .slice none 0 0]) ?_ 5 _ rfl; (with_reducible repeat (first | refine blk_drewN ?_ _ | refine blk_drew ?_ | refine blk_alloc ?_ _)); refine blk_put (cs := #[.int .i64 t199, .int .i64 t200, .int .i64 t201, .int .i64 t202, .int .i64 0, .int .i64 0, .int .i64 0, .int .i64 0, .slice none 0 0]) ?_ 4 _ rfl; (with_reducible repeat (first | refine blk_drewN ?_ _ | refine blk_drew ?_ | refine blk_alloc ?_ _)); refine blk_put (cs := #[.int .i64 t199, .int .i64 t200, .int .i64 t201, .int .i64 0, .int .i64 0, .int .i64 0, .int .i64 0, .int .i64 0, .slice none 0 0]) ?_ 3 _ rfl; (with_reducible repeat (first | refine blk_drewN ?_ _ | refine blk_drew ?_ | refine blk_alloc ?_ _)); refine blk_put (cs := #[.int .i64 t199, .int .i64 t200, .int .i64 0, .int .i64 0, .int .i64 0, .int .i64 0, .int .i64 0, .int .i64 0, .slice none 0 0]) ?_ 2 _ rfl; (with_reducible repeat (first | refine blk_drewN ?_ _ | refine blk_drew ?_ | refine blk_alloc ?_ _)); refine blk_put (cs := #[.int .i64 t199, .int .i64 0, .int .i64 0, .int .i64 0, .int .i64 0, .int .i64 0, .int .i64 0, .int .i64 0, .slice none 0 0]) ?_ 1 _ rfl; (with_reducible repeat (first | refine blk_drewN ?_ _ | refine blk_drew ?_ | refine blk_alloc ?_ _)); refine blk_put (cs := #[.int .i64 0, .int .i64 0, .int .i64 0, .int .i64 0, .int .i64 0, .int .i64 0, .int .i64 0, .int .i64 0, .slice none 0 0]) ?_ 0 _ rfl; (with_reducible repeat (first | refine blk_drewN ?_ _ | refine blk_drew ?_ | refine blk_alloc ?_ _)); exact BK210.out) hb); have n4_ := Aside0.mk (below_step (by repeat (first | (with_reducible first | exact HB.out | apply below_alloc | apply pw_below_drewN | apply below_drew1 | refine below_set ?_ GE193.out | refine below_set ?_ GE210.out) | exact HB.out)) hb); clear HO_3; clear HO209; clear BK193; clear BK210; clear HB; have HO_3 := n0_; have HO209 := n1_; have BK193 := n2_; have BK210 := n3_; have HB := n4_; clear n0_ n1_ n2_ n3_ n4_; (try clear hb); (try clear hb2); (try clear hk); (try clear hi); have hcz31_0 : w30.cell? ⟨gb193, 0, none⟩ = some (.slice (some ad198) l0_0.length c0_0) := (blk_cell BK193.out 0).trans rfl; have hcz31_1 : w30.cell? ⟨gb193, 1, none⟩ = some (.slice A0_1 l0_1.length c0_1) := (blk_cell BK193.out 1).trans rfl; have hfz31_0 := blk_frozen BK193.out 0; have hfz31_1 := blk_frozen BK193.out 1; have p213 : 0 ≤ (x4_1 : Int) := of_decide_eq_true (by first | (with_reducible assumption) | assumption); have q213 : x4_1 < (l0_0.length : Int) := of_decide_eq_true (by first | (with_reducible assumption) | assumption); obtain ⟨ad213, A213_8, c213_8, e213, hx213_0, hx213_1, hx213_2, hx213_3, hx213_4, hx213_5, hx213_6, hx213_7, hx213_8, hl213_8, hi213_8⟩ := at_T32 HR0_0.out x4_1 p213 q213; obtain rfl : ad198 = ad213 := (by injection e213); replace hx213_0 := (HB.out.cell (World.block_lt_of_cell? w _ hx213_0)).trans hx213_0; replace hx213_1 := (HB.out.cell (World.block_lt_of_cell? w _ hx213_1)).trans hx213_1; replace hx213_2 := (HB.out.cell (World.block_lt_of_cell? w _ hx213_2)).trans hx213_2; replace hx213_3 := (HB.out.cell (World.block_lt_of_cell? w _ hx213_3)).trans hx213_3; replace hx213_4 := (HB.out.cell (World.block_lt_of_cell? w _ hx213_4)).trans hx213_4; replace hx213_5 := (HB.out.cell (World.block_lt_of_cell? w _ hx213_5)).trans hx213_5; replace hx213_6 := (HB.out.cell (World.block_lt_of_cell? w _ hx213_6)).trans hx213_6; replace hx213_7 := (HB.out.cell (World.block_lt_of_cell? w _ hx213_7)).trans hx213_7; replace hx213_8 := (HB.out.cell (World.block_lt_of_cell? w _ hx213_8)).trans hx213_8; have HR213_8 := Aside0.mk hi213_8; have HC213_8 := Aside0.mk hl213_8; clear hi213_8 hl213_8; replace p213 := eq_true p213; replace q213 := eq_true q213) | ((with_reducible refine gate_callee (f := 12) rfl ?_); refine goesL_ (some 49) rfl rfl Try.func12 (by kernel_rfl) rfl #[.agg #[.int .i64 ((rd_T32 l0_0 x4_1).f0), .int .i64 ((rd_T32 l0_0 x4_1).f1.f0), .int .i64 ((rd_T32 l0_0 x4_1).f1.f1), .int .i64 ((rd_T32 l0_0 x4_1).f2.f0), .int .i64 ((rd_T32 l0_0 x4_1).f2.f1), .int .i64 ((rd_T32 l0_0 x4_1).f3), .int .i64 ((rd_T32 l0_0 x4_1).f4), .int .i64 ((rd_T32 l0_0 x4_1).f5), .slice A213_8 ((rd_T32 l0_0 x4_1).f6).length c213_8]] rfl (by (try simp only [List.map_toArray, List.map_cons, List.map_nil]); first | done | rfl | (simp only [List.length_drop, List.length_take]; rfl)) ?_; (with_reducible refine (quillref24_Op.calls kj12 ((rd_T32 l0_0 x4_1).f0) ((rd_T32 l0_0 x4_1).f1.f0) ((rd_T32 l0_0 x4_1).f1.f1) ((rd_T32 l0_0 x4_1).f2.f0) ((rd_T32 l0_0 x4_1).f2.f1) ((rd_T32 l0_0 x4_1).f3) ((rd_T32 l0_0 x4_1).f4) ((rd_T32 l0_0 x4_1).f5) _ _ ((rd_T32 l0_0 x4_1).f6) t214 _ ?side1 ?side2 A22.out).mono ?_); (case side1 => repeat (first | exact (Kd.C_below HR213_8.out HB.out) | (with_reducible refine Kd.C_alloc ?_ _) | (with_reducible refine Kd.C_drewN ?_ _) | (with_reducible refine Kd.C_drew ?_))); (case side2 => exact HC213_8.out); rintro e w32 ⟨rfl, hb⟩; refine ⟨_, rfl, ?_⟩; have n0_ := Aside0.mk (Kd.R_below (by (with_reducible repeat (first | apply Kd.R_alloc | apply Kd.R_drewN | apply Kd.R_drew)); exact HO_3.out) hb); have n1_ := Aside0.mk (Kd.R_below (by (with_reducible repeat (first | apply Kd.R_alloc | apply Kd.R_drewN | apply Kd.R_drew)); exact HO209.out) hb); have n2_ := Aside0.mk (blk_below (g := gb193) (o := .cells #[.slice (some ad198) l0_0.length c0_0, .slice A0_1 l0_1.length c0_1] 25 (0, 0)) (by (with_reducible repeat (first | refine blk_drewN ?_ _ | refine blk_drew ?_ | refine blk_alloc ?_ _)); exact BK193.out) hb); have n3_ := Aside0.mk (blk_below (g := gb210) (o := .cells #[.int .i64 t199, .int .i64 t200, .int .i64 t201, .int .i64 t202, .int .i64 t203, .int .i64 t204, .int .i64 t205, .int .i64 t206, .slice Ao29 t207.length co29] 32 (0, 0)) (by (with_reducible repeat (first | refine blk_drewN ?_ _ | refine blk_drew ?_ | refine blk_alloc ?_ _)); exact BK210.out) hb); have n4_ := Aside0.mk (below_step (by repeat (first | (with_reducible first | exact HB.out | apply below_alloc | apply pw_below_drewN | apply below_drew1 | refine below_set ?_ GE193.out | refine below_set ?_ GE210.out) | exact HB.out)) hb); clear HO_3; clear HO209; clear BK193; clear BK210; clear HB; have HO_3 := n0_; have HO209 := n1_; have BK193 := n2_; have BK210 := n3_; have HB := n4_; clear n0_ n1_ n2_ n3_ n4_; (try clear hb); (try clear hb2); (try clear hk); (try clear hi)))
         (try simp only [Act.put, List.setIfInBounds_toArray, List.set_cons_zero, List.set_cons_succ])
         go_cut [3, 8, 9] (fun v3 v8 v9 wc => ∃ (kq : Nat) (x3_22 : List ByteArray) (x8_22 : Int) (x9_22 : ByteArray), v8 = .int .i64 x8_22 ∧ v9 = .string x9_22 ∧ Aside0 (quilllaw25_CodecBytes.j3 kq x3_22 x4_1 t211 t212 x8_22 x9_22 l0_0 l0_1 t199 t200 t201 t202 t203 t204 t205 t206 t207 = some r) ∧ Aside0 (kq ≤ kj12) ∧ Aside0 (Kd.R Kd.string 9 wc w.heap.size (fun _ => True) v3 x3_22) ∧ Aside0 (Kd.R (Kd.int .i64) 3 wc w.heap.size (fun _ => True) (.slice Ao29 t207.length co29) t207) ∧ Aside0 (wc.heap[gb193]? = some (.cells #[(.slice (some ad198) l0_0.length c0_0), (.slice A0_1 l0_1.length c0_1)] 25 (0, 0))) ∧ Aside0 (wc.heap[gb210]? = some (.cells #[.int .i64 t199, .int .i64 t200, .int .i64 t201, .int .i64 t202, .int .i64 t203, .int .i64 t204, .int .i64 t205, .int .i64 t206, (.slice Ao29 t207.length co29)] 32 (0, 0))) ∧ Aside0 (Below w.heap.size w wc))
         case first =>
          have H := HC23.out
          clear HC23
          by_cases c33 : t214 = true
          ·
           subst c33
           have H1 : ((quillref24_Bytes.f kj12 ((rd_T32 l0_0 x4_1).f0) ((rd_T32 l0_0 x4_1).f1.f0) ((rd_T32 l0_0 x4_1).f1.f1) ((rd_T32 l0_0 x4_1).f2.f0) ((rd_T32 l0_0 x4_1).f2.f1) ((rd_T32 l0_0 x4_1).f3) ((rd_T32 l0_0 x4_1).f4) ((rd_T32 l0_0 x4_1).f5) ((rd_T32 l0_0 x4_1).f6)).bind fun t216 => (if t216.size + 1 ≤ 9223372036854775807 then (if 0 ≤ 20 then (if 20 ≤ (t216.size : Int) then ((some (([t216, t216 ++ (⟨#[120]⟩ : ByteArray), t216.extract 0 20] : List ByteArray) : List ByteArray)).bind fun y217 => (if x3_1.length + y217.length < 8796093022208 then (quilllaw25_CodecBytes.l1 kj12 (x3_1 ++ y217) x4_1 t211 t212 0 t216 0 l0_0 l0_1 t199 t200 t201 t202 t203 t204 t205 t206 t207) else (none))) else (none)) else (none)) else (none))) = some r := by rw [if_pos rfl] at H; exact H
           clear H
           have H := H1
           clear H1
           replace H := Option.bind_eq_some_iff.mp H
           obtain ⟨t216, A340, H⟩ := H
           replace H : (if t216.size + 1 ≤ 9223372036854775807 then (if 0 ≤ 20 then (if 20 ≤ (t216.size : Int) then ((some (([t216, t216 ++ (⟨#[120]⟩ : ByteArray), t216.extract 0 20] : List ByteArray) : List ByteArray)).bind fun y217 => (if x3_1.length + y217.length < 8796093022208 then (quilllaw25_CodecBytes.l1 kj12 (x3_1 ++ y217) x4_1 t211 t212 0 t216 0 l0_0 l0_1 t199 t200 t201 t202 t203 t204 t205 t206 t207) else (none))) else (none)) else (none)) else (none)) = some r := H
           have A34 := Aside0.mk A340
           clear A340
           by_cases c35 : t216.size + 1 ≤ 9223372036854775807
           ·
            rw [if_pos c35] at H
            have c35b0 := eq_true c35
            have c35b1 : decide (t216.size + 1 ≤ 9223372036854775807) = true := decide_eq_true c35
            try have c35b2 : (9223372036854775807 < t216.size + 1) = False := eq_false (Nat.not_lt.2 c35)
            by_cases c36 : 0 ≤ 20
            ·
             rw [if_pos c36] at H
             have c36b0 := eq_true c36
             have c36b1 : decide (0 ≤ 20) = true := decide_eq_true c36
             clear c36
             by_cases c37 : 20 ≤ (t216.size : Int)
             ·
              rw [if_pos c37] at H
              have c37b0 := eq_true c37
              have c37b1 : decide (20 ≤ (t216.size : Int)) = true := decide_eq_true c37
              clear c37
              obtain ⟨y217, hy217⟩ : ∃ y_ : List ByteArray, y_ = (([t216, t216 ++ (⟨#[120]⟩ : ByteArray), t216.extract 0 20] : List ByteArray)) := ⟨_, rfl⟩
              replace H : (if x3_1.length + y217.length < 8796093022208 then (quilllaw25_CodecBytes.l1 kj12 (x3_1 ++ y217) x4_1 t211 t212 0 t216 0 l0_0 l0_1 t199 t200 t201 t202 t203 t204 t205 t206 t207) else (none)) = some r := by first | (rw [hy217]; with_reducible exact H) | (have H2_ := (Option.bind_some _ _).symm.trans H; rw [hy217]; with_reducible exact H2_) | (have H2_ := (Option.bind_some _ _).symm.trans H; with_reducible exact H2_) | with_reducible exact H | (rw [hy217]; exact H) | exact H
              have Ny217 := Aside0.mk hy217
              clear hy217
              by_cases c38 : x3_1.length + y217.length < 8796093022208
              ·
               rw [if_pos c38] at H
               have LMc38 := Aside0.mk c38
               clear c38
               obtain ⟨y220, hy220⟩ : ∃ y_ : List ByteArray, y_ = (x3_1 ++ y217) := ⟨_, rfl⟩
               replace H : (quilllaw25_CodecBytes.l1 kj12 y220 x4_1 t211 t212 0 t216 0 l0_0 l0_1 t199 t200 t201 t202 t203 t204 t205 t206 t207) = some r := by first | (rw [hy220]; with_reducible exact H) | (have H2_ := (Option.bind_some _ _).symm.trans H; rw [hy220]; with_reducible exact H2_) | (have H2_ := (Option.bind_some _ _).symm.trans H; with_reducible exact H2_) | with_reducible exact H | (rw [hy220]; exact H) | exact H
               have Ny220 := Aside0.mk hy220
               clear hy220
               have H' := Aside0.mk H
               clear H
               have hnb39 := NB193_210.out
               have hnc39 := NB210_193.out
               have hcz40_0 : w32.cell? ⟨gb193, 0, none⟩ = some (.slice (some ad198) l0_0.length c0_0) := (blk_cell BK193.out 0).trans rfl
               have hcz40_1 : w32.cell? ⟨gb193, 1, none⟩ = some (.slice A0_1 l0_1.length c0_1) := (blk_cell BK193.out 1).trans rfl
               have hfz40_0 := blk_frozen BK193.out 0
               have hfz40_1 := blk_frozen BK193.out 1
               have p215 : 0 ≤ (x4_1 : Int) := of_decide_eq_true (by first | (with_reducible assumption) | assumption)
               have q215 : x4_1 < (l0_0.length : Int) := of_decide_eq_true (by first | (with_reducible assumption) | assumption)
               obtain ⟨ad215, A215_8, c215_8, e215, hx215_0, hx215_1, hx215_2, hx215_3, hx215_4, hx215_5, hx215_6, hx215_7, hx215_8, hl215_8, hi215_8⟩ := at_T32 HR0_0.out x4_1 p215 q215
               obtain rfl : ad198 = ad215 := (by injection e215)
               replace hx215_0 := (HB.out.cell (World.block_lt_of_cell? w _ hx215_0)).trans hx215_0
               replace hx215_1 := (HB.out.cell (World.block_lt_of_cell? w _ hx215_1)).trans hx215_1
               replace hx215_2 := (HB.out.cell (World.block_lt_of_cell? w _ hx215_2)).trans hx215_2
               replace hx215_3 := (HB.out.cell (World.block_lt_of_cell? w _ hx215_3)).trans hx215_3
               replace hx215_4 := (HB.out.cell (World.block_lt_of_cell? w _ hx215_4)).trans hx215_4
               replace hx215_5 := (HB.out.cell (World.block_lt_of_cell? w _ hx215_5)).trans hx215_5
               replace hx215_6 := (HB.out.cell (World.block_lt_of_cell? w _ hx215_6)).trans hx215_6
               replace hx215_7 := (HB.out.cell (World.block_lt_of_cell? w _ hx215_7)).trans hx215_7
               replace hx215_8 := (HB.out.cell (World.block_lt_of_cell? w _ hx215_8)).trans hx215_8
               have HR215_8 := Aside0.mk hi215_8
               have HC215_8 := Aside0.mk hl215_8
               clear hi215_8 hl215_8
               replace p215 := eq_true p215
               replace q215 := eq_true q215
               go_wp2_with (first | ((with_reducible refine gate_callee (f := 13) rfl ?_); refine goesL_ (some 55) rfl rfl Try.func13 (by kernel_rfl) rfl #[.agg #[.int .i64 ((rd_T32 l0_0 x4_1).f0), .int .i64 ((rd_T32 l0_0 x4_1).f1.f0), .int .i64 ((rd_T32 l0_0 x4_1).f1.f1), .int .i64 ((rd_T32 l0_0 x4_1).f2.f0), .int .i64 ((rd_T32 l0_0 x4_1).f2.f1), .int .i64 ((rd_T32 l0_0 x4_1).f3), .int .i64 ((rd_T32 l0_0 x4_1).f4), .int .i64 ((rd_T32 l0_0 x4_1).f5), .slice A215_8 ((rd_T32 l0_0 x4_1).f6).length c215_8]] rfl (by (try simp only [List.map_toArray, List.map_cons, List.map_nil]); first | done | rfl | (simp only [List.length_drop, List.length_take]; rfl)) ?_; (with_reducible refine (quillref24_Bytes.calls kj12 ((rd_T32 l0_0 x4_1).f0) ((rd_T32 l0_0 x4_1).f1.f0) ((rd_T32 l0_0 x4_1).f1.f1) ((rd_T32 l0_0 x4_1).f2.f0) ((rd_T32 l0_0 x4_1).f2.f1) ((rd_T32 l0_0 x4_1).f3) ((rd_T32 l0_0 x4_1).f4) ((rd_T32 l0_0 x4_1).f5) _ _ ((rd_T32 l0_0 x4_1).f6) t216 _ ?side1 ?side2 A34.out).mono ?_); (case side1 => repeat (first | exact (Kd.C_below HR215_8.out HB.out) | (with_reducible refine Kd.C_alloc ?_ _) | (with_reducible refine Kd.C_drewN ?_ _) | (with_reducible refine Kd.C_drew ?_))); (case side2 => exact HC215_8.out); rintro e w41 ⟨rfl, hb⟩; refine ⟨_, rfl, ?_⟩; have n0_ := Aside0.mk (Kd.R_below (by (with_reducible repeat (first | apply Kd.R_alloc | apply Kd.R_drewN | apply Kd.R_drew)); exact HO_3.out) hb); have n1_ := Aside0.mk (Kd.R_below (by (with_reducible repeat (first | apply Kd.R_alloc | apply Kd.R_drewN | apply Kd.R_drew)); exact HO209.out) hb); have n2_ := Aside0.mk (blk_below (g := gb193) (o := .cells #[.slice (some ad198) l0_0.length c0_0, .slice A0_1 l0_1.length c0_1] 25 (0, 0)) (by (with_reducible repeat (first | refine blk_drewN ?_ _ | refine blk_drew ?_ | refine blk_alloc ?_ _)); exact BK193.out) hb); have n3_ := Aside0.mk (blk_below (g := gb210) (o := .cells #[.int .i64 t199, .int .i64 t200, .int .i64 t201, .int .i64 t202, .int .i64 t203, .int .i64 t204, .int .i64 t205, .int .i64 t206, .slice Ao29 t207.length co29] 32 (0, 0)) (by (with_reducible repeat (first | refine blk_drewN ?_ _ | refine blk_drew ?_ | refine blk_alloc ?_ _)); exact BK210.out) hb); have n4_ := Aside0.mk (below_step (by repeat (first | (with_reducible first | exact HB.out | apply below_alloc | apply pw_below_drewN | apply below_drew1 | refine below_set ?_ GE193.out | refine below_set ?_ GE210.out) | exact HB.out)) hb); clear HO_3; clear HO209; clear BK193; clear BK210; clear HB; have HO_3 := n0_; have HO209 := n1_; have BK193 := n2_; have BK210 := n3_; have HB := n4_; clear n0_ n1_ n2_ n3_ n4_; (try clear hb); (try clear hb2); (try clear hk); (try clear hi)) | ((with_reducible refine gate_dst (N := 62) rfl ?_); refine Kd.R_lit Kd.string _ 9 ?hg (N := 62) ?hd (xs := ([t216, t216 ++ (⟨#[120]⟩ : ByteArray), t216.extract 0 20] : List ByteArray)) (inner := [.string t216, .string (t216 ++ (⟨#[120]⟩ : ByteArray)), .string (t216.extract 0 20)]) (ok := fun _ => True) (okp := fun _ => True) ?hr ?hp (fun _ hk => hk) trivial (Below.refl _ _) (Nat.le_refl _) (by simp) ?_; (case hd => rfl); (case hg => rfl); (case hr => first | (go_simp; done) | (go_simp; rfl)); (case hp => exact (Reps.one (show Kd.M Kd.string _ _ _ t216 [.string t216] from rfl) (Reps.one (show Kd.M Kd.string _ _ _ (t216 ++ (⟨#[120]⟩ : ByteArray)) [.string (t216 ++ (⟨#[120]⟩ : ByteArray))] from rfl) (Reps.one (show Kd.M Kd.string _ _ _ (t216.extract 0 20) [.string (t216.extract 0 20)] from rfl) (Reps.none _ _))))); intro v218 w42 ho43 hb hg_ hnew_; clear hg_ hnew_; (first | rw [← Ny217.out] at ho43 | (simp only [Int.reduceToNat] at ho43; rw [← Ny217.out] at ho43)); have n0_ := Aside0.mk (Kd.R_elder' (by (with_reducible repeat (first | apply Kd.R_alloc | apply Kd.R_drewN | apply Kd.R_drew)); exact HO_3.out) (Kd.R_base ho43) hb); have n1_ := Aside0.mk (Kd.R_below (by (with_reducible repeat (first | apply Kd.R_alloc | apply Kd.R_drewN | apply Kd.R_drew)); exact HO209.out) hb); have n2_ := Aside0.mk (Kd.R_lower (Kd.R_new' ho43 (Kd.R_lt (by (with_reducible repeat (first | apply Kd.R_alloc | apply Kd.R_drewN | apply Kd.R_drew)); exact HO_3.out))) (below_size (by repeat (first | (with_reducible first | exact HB.out | apply below_alloc | apply pw_below_drewN | apply below_drew1 | refine below_set ?_ GE193.out | refine below_set ?_ GE210.out) | exact HB.out)))); have n3_ := Aside0.mk (blk_below (g := gb193) (o := .cells #[.slice (some ad198) l0_0.length c0_0, .slice A0_1 l0_1.length c0_1] 25 (0, 0)) (by (with_reducible repeat (first | refine blk_drewN ?_ _ | refine blk_drew ?_ | refine blk_alloc ?_ _)); exact BK193.out) hb); have n4_ := Aside0.mk (blk_below (g := gb210) (o := .cells #[.int .i64 t199, .int .i64 t200, .int .i64 t201, .int .i64 t202, .int .i64 t203, .int .i64 t204, .int .i64 t205, .int .i64 t206, .slice Ao29 t207.length co29] 32 (0, 0)) (by (with_reducible repeat (first | refine blk_drewN ?_ _ | refine blk_drew ?_ | refine blk_alloc ?_ _)); exact BK210.out) hb); have n5_ := Aside0.mk (below_step (by repeat (first | (with_reducible first | exact HB.out | apply below_alloc | apply pw_below_drewN | apply below_drew1 | refine below_set ?_ GE193.out | refine below_set ?_ GE210.out) | exact HB.out)) hb); clear HO_3; clear HO209; clear BK193; clear BK210; clear HB; have HO_3 := n0_; have HO209 := n1_; have HO219 := n2_; have BK193 := n3_; have BK210 := n4_; have HB := n5_; clear n0_ n1_ n2_ n3_ n4_ n5_; clear hb ho43; obtain ⟨Ao45, co45, eo45⟩ := Kd.R_slice HO219.out; subst eo45) | ((with_reducible refine gate_builtin (b := .append) (xs := #[.tmp 56, .tmp 62]) rfl ?_); at_builtin; refine Kd.R_append_rows Kd.string (w0 := w) w.heap.size rfl (.tmp 56) (.tmp 62) 23 9 (.string ⟨#[]⟩) 16 rfl Try.underlying23 info9 rfl (by decide) (by omega) u3 x3_1 y217 _ _ _ (fun k_ => some k_ ≠ (.slice Ao45 y217.length co45 : Value).ownBlock) (fun _ => False) rfl rfl ?aO ?aR (fun _ _ h => h) (fun _ h => h.elim) ?aF ?aB ?aS ?aL ?_; (case aR => repeat (first | exact (Kd.R_reads' HO219.out).2.2 | (with_reducible refine Kd.C_alloc ?_ _) | (with_reducible refine Kd.C_drewN ?_ _) | (with_reducible refine Kd.C_drew ?_))); (case aB => exact (by repeat (first | (with_reducible first | exact HB.out | apply below_alloc | apply pw_below_drewN | apply below_drew1 | refine below_set ?_ GE193.out | refine below_set ?_ GE210.out) | exact HB.out))); (case aF => exact (fun k_ hk => Kd.fresh' (Kd.R_lt (by (with_reducible repeat (first | apply Kd.R_alloc | apply Kd.R_drewN | apply Kd.R_drew)); exact HO219.out)) k_ hk)); (case aO => exact (by (with_reducible repeat (first | apply Kd.R_alloc | apply Kd.R_drewN | apply Kd.R_drew)); exact Kd.R_mono HO_3.out (fun _ hk => hk.2))); (case aS => exact (below_size (by repeat (first | (with_reducible first | exact HB.out | apply below_alloc | apply pw_below_drewN | apply below_drew1 | refine below_set ?_ GE193.out | refine below_set ?_ GE210.out) | exact HB.out)))); (case aL => have := LMc38.out; omega); intro v221 w44 ho hb hg hat; rw [← Ny220.out] at ho; have n0_ := Aside0.mk (blk_grown (g := gb193) (o := .cells #[.slice (some ad198) l0_0.length c0_0, .slice A0_1 l0_1.length c0_1] 25 (0, 0)) (by (with_reducible repeat (first | refine blk_drewN ?_ _ | refine blk_drew ?_ | refine blk_alloc ?_ _)); exact BK193.out) hg (Kd.R_ne HO_3.out BK193.out (by decide))); have n1_ := Aside0.mk (Kd.R_over' (by (with_reducible repeat (first | apply Kd.R_alloc | apply Kd.R_drewN | apply Kd.R_drew)); exact HO209.out) (Kd.R_typed (by (with_reducible repeat (first | apply Kd.R_alloc | apply Kd.R_drewN | apply Kd.R_drew)); exact HO_3.out)) (by decide) hg); have n2_ := Aside0.mk (blk_grown (g := gb210) (o := .cells #[.int .i64 t199, .int .i64 t200, .int .i64 t201, .int .i64 t202, .int .i64 t203, .int .i64 t204, .int .i64 t205, .int .i64 t206, .slice Ao29 t207.length co29] 32 (0, 0)) (by (with_reducible repeat (first | refine blk_drewN ?_ _ | refine blk_drew ?_ | refine blk_alloc ?_ _)); exact BK210.out) hg (Kd.R_ne HO_3.out BK210.out (by decide))); have n3_ := Aside0.mk (Kd.R_after (ok := (fun _ => True)) (by (with_reducible repeat (first | apply Kd.R_alloc | apply Kd.R_drewN | apply Kd.R_drew)); exact HO219.out) hg hat); have n4_ := Aside0.mk (hb); have n5_ := Aside0.mk (ho); clear BK193; clear HO209; clear BK210; clear HO219; clear HB; clear HO_3; have BK193 := n0_; have HO209 := n1_; have BK210 := n2_; have HO219 := n3_; have HB := n4_; have HO222 := n5_; clear n0_ n1_ n2_ n3_ n4_ n5_; clear ho hb hg hat))
               go_loopg [3, 10] kj12 (fun kq v3 v10 w' => ∃ (x3_3 : List ByteArray) (x10_3 : Int), v10 = .int .i64 x10_3 ∧ Aside0 (quilllaw25_CodecBytes.l1 kq x3_3 x4_1 t211 t212 0 t216 x10_3 l0_0 l0_1 t199 t200 t201 t202 t203 t204 t205 t206 t207 = some r) ∧ Aside0 (kq ≤ kj12) ∧ Aside0 (Kd.R Kd.string 9 w' w.heap.size (fun _ => True) v3 x3_3) ∧ Aside0 (Kd.R (Kd.int .i64) 3 w' w.heap.size (fun _ => True) (.slice Ao29 t207.length co29) t207) ∧ Aside0 (w'.heap[gb193]? = some (.cells #[(.slice (some ad198) l0_0.length c0_0), (.slice A0_1 l0_1.length c0_1)] 25 (0, 0))) ∧ Aside0 (w'.heap[gb210]? = some (.cells #[.int .i64 t199, .int .i64 t200, .int .i64 t201, .int .i64 t202, .int .i64 t203, .int .i64 t204, .int .i64 t205, .int .i64 t206, (.slice Ao29 t207.length co29)] 32 (0, 0))) ∧ Aside0 (Below w.heap.size w w'))
               case atStart => exact ⟨(y220), (0), (by first | rfl | (simp; done) | (simp [*]; done)), H', ⟨Nat.le_refl _⟩, ⟨by (with_reducible repeat (first | apply Kd.R_alloc | apply Kd.R_drewN | apply Kd.R_drew)); exact Kd.R_mono HO222.out (fun _ hk => trivial)⟩, ⟨by (with_reducible repeat (first | apply Kd.R_alloc | apply Kd.R_drewN | apply Kd.R_drew)); exact HO209.out⟩, ⟨by (with_reducible repeat (first | refine blk_drewN ?_ _ | refine blk_drew ?_ | refine blk_alloc ?_ _)); exact BK193.out⟩, ⟨by (with_reducible repeat (first | refine blk_drewN ?_ _ | refine blk_drew ?_ | refine blk_alloc ?_ _)); exact BK210.out⟩, ⟨by repeat (first | (with_reducible first | exact HB.out | apply below_alloc | apply pw_below_drewN | apply below_drew1 | refine below_set ?_ GE193.out | refine below_set ?_ GE210.out) | exact HB.out)⟩⟩
               case round =>
                clear H'
                try clear c1
                try clear p1
                try clear q1
                try clear hx1
                try clear c2
                try clear p2
                try clear q2
                try clear hx2
                try clear c3
                try clear c8
                try clear c9
                try clear c10
                try clear c11
                try clear c12
                try clear c13
                try clear c14
                try clear c14b0
                try clear c17
                try clear c18
                try clear c18b0
                try clear c19
                try clear c19b0
                try clear p19
                try clear q19
                try clear hx19
                try clear c21
                try clear p21
                try clear q21
                try clear hx21
                try clear c27
                try clear c33
                try clear c35
                try clear c35b0
                try clear c35b1
                try clear c35b2
                try clear c36
                try clear c36b0
                try clear c36b1
                try clear c37
                try clear c37b0
                try clear c37b1
                try clear c38
                try clear c39
                try clear hcz11_0
                try clear hcz11_1
                try clear hcz15_0
                try clear hcz15_1
                try clear hcz16_0
                try clear hcz16_1
                try clear hcz24_0
                try clear hcz24_1
                try clear hcz28_0
                try clear hcz28_1
                try clear hcz28_2
                try clear hcz28_3
                try clear hcz28_4
                try clear hcz28_5
                try clear hcz28_6
                try clear hcz28_7
                try clear hcz28_8
                try clear hcz31_0
                try clear hcz31_1
                try clear hcz40_0
                try clear hcz40_1
                try clear hcz5_0
                try clear hcz5_1
                try clear hcz9_0
                try clear hcz9_1
                try clear hfz11_0
                try clear hfz11_1
                try clear hfz15_0
                try clear hfz15_1
                try clear hfz16_0
                try clear hfz16_1
                try clear hfz24_0
                try clear hfz24_1
                try clear hfz28_0
                try clear hfz28_1
                try clear hfz28_2
                try clear hfz28_3
                try clear hfz28_4
                try clear hfz28_5
                try clear hfz28_6
                try clear hfz28_7
                try clear hfz28_8
                try clear hfz31_0
                try clear hfz31_1
                try clear hfz40_0
                try clear hfz40_1
                try clear hfz5_0
                try clear hfz5_1
                try clear hfz9_0
                try clear hfz9_1
                try clear hx198_0
                try clear hx198_1
                try clear hx198_2
                try clear hx198_3
                try clear hx198_4
                try clear hx198_5
                try clear hx198_6
                try clear hx198_7
                try clear hx198_8
                try clear hx213_0
                try clear hx213_1
                try clear hx213_2
                try clear hx213_3
                try clear hx213_4
                try clear hx213_5
                try clear hx213_6
                try clear hx213_7
                try clear hx213_8
                try clear hx215_0
                try clear hx215_1
                try clear hx215_2
                try clear hx215_3
                try clear hx215_4
                try clear hx215_5
                try clear hx215_6
                try clear hx215_7
                try clear hx215_8
                try clear p198
                try clear p2
                try clear p213
                try clear p215
                try clear q198
                try clear q213
                try clear q215
                obtain ⟨x3_3, x10_3, rfl, HA, HK3, HO_3, HO_211008, BK193, BK210, HB⟩ := hrel
                cases gk with
                | zero => exact absurd HA.out (by simp [quilllaw25_CodecBytes.l1])
                | succ k3 =>
                 have H := HA.out
                 clear HA
                 simp only [quilllaw25_CodecBytes.l1] at H
                 by_cases c46 : x10_3 < 21
                 ·
                  rw [if_pos c46] at H
                  have c46b0 : decide (x10_3 < 21) = true := decide_eq_true c46
                  clear c46
                  (first | rw [c46b0] | (simp only [i64_w, i32_w]; rw [c46b0]) | skip)
                  replace H := Option.bind_eq_some_iff.mp H
                  obtain ⟨t223, A470, H⟩ := H
                  replace H : (if 0 ≤ x10_3 then (if x10_3 < (t223.length : Int) then (if 0 ≤ (Int.tmod (wrap64 (x4_1 + x10_3)) 8) then (if x3_3.length < 8796093022208 then (quilllaw25_CodecBytes.l1 k3 (x3_3 ++ [strOfNums (t223.set (x10_3 : Int).toNat (Go.bits .xor .u8 (rd t223 x10_3) (shl .u8 1 (Int.tmod (wrap64 (x4_1 + x10_3)) 8))))]) x4_1 t211 t212 0 t216 (wrap64 (x10_3 + 1)) l0_0 l0_1 t199 t200 t201 t202 t203 t204 t205 t206 t207) else (none)) else (none)) else (none)) else (none)) = some r := H
                  have A47 := Aside0.mk A470
                  clear A470
                  by_cases c48 : 0 ≤ x10_3
                  ·
                   rw [if_pos c48] at H
                   have c48b0 : decide (0 ≤ x10_3) = true := decide_eq_true c48
                   clear c48
                   by_cases c49 : x10_3 < (t223.length : Int)
                   ·
                    rw [if_pos c49] at H
                    have c49b0 : decide (x10_3 < (t223.length : Int)) = true := decide_eq_true c49
                    clear c49
                    obtain ⟨ji50, hji50⟩ : ∃ j_ : Int, (Int.tmod (wrap64 (x4_1 + x10_3)) 8) = j_ := ⟨_, rfl⟩
                    replace H : (if 0 ≤ (ji50) then (if x3_3.length < 8796093022208 then (quilllaw25_CodecBytes.l1 k3 (x3_3 ++ [strOfNums (t223.set (x10_3 : Int).toNat (Go.bits .xor .u8 (rd t223 x10_3) (shl .u8 1 (ji50))))]) x4_1 t211 t212 0 t216 (wrap64 (x10_3 + 1)) l0_0 l0_1 t199 t200 t201 t202 t203 t204 t205 t206 t207) else (none)) else (none)) = some r := by first | (rw [hji50] at H; exact H) | (simp only [hji50] at H ⊢; exact H)
                    (try rw [hji50] at A47)
                    by_cases c51 : 0 ≤ (ji50)
                    ·
                     rw [if_pos c51] at H
                     have c51b0 := eq_true c51
                     have c51b1 : decide (0 ≤ (ji50)) = true := decide_eq_true c51
                     clear c51
                     obtain ⟨ji52, hji52⟩ : ∃ j_ : Int, (shl .u8 1 (ji50)) = j_ := ⟨_, rfl⟩
                     replace H : (if x3_3.length < 8796093022208 then (quilllaw25_CodecBytes.l1 k3 (x3_3 ++ [strOfNums (t223.set (x10_3 : Int).toNat (Go.bits .xor .u8 (rd t223 x10_3) (ji52)))]) x4_1 t211 t212 0 t216 (wrap64 (x10_3 + 1)) l0_0 l0_1 t199 t200 t201 t202 t203 t204 t205 t206 t207) else (none)) = some r := by first | (rw [hji52] at H; exact H) | (simp only [hji52] at H ⊢; exact H)
                     (try rw [hji52] at A47)
                     have hji52_ : (IntKind.u8.wrap (1 * 2 ^ min (ji50).toNat 8)) = ji52 := hji52
                     have hji52z : (ji50) ≤ 8 → (IntKind.u8.wrap (1 * 2 ^ (ji50).toNat)) = ji52 := shl_small hji52
                     have hji52u : (IntKind.u8.wrap (2 ^ min (ji50).toNat 8)) = ji52 := by have h_ := hji52_; rw [Int.one_mul] at h_; exact h_
                     have hji52v : (ji50) ≤ 8 → (IntKind.u8.wrap (2 ^ (ji50).toNat)) = ji52 := fun hle_ => by have h_ := hji52z hle_; rw [Int.one_mul] at h_; exact h_
                     obtain ⟨y227, hy227⟩ : ∃ y_ : List Int, y_ = (t223.set (x10_3 : Int).toNat (Go.bits .xor .u8 (rd t223 x10_3) (ji52))) := ⟨_, rfl⟩
                     replace H : (if x3_3.length < 8796093022208 then (quilllaw25_CodecBytes.l1 k3 (x3_3 ++ [strOfNums y227]) x4_1 t211 t212 0 t216 (wrap64 (x10_3 + 1)) l0_0 l0_1 t199 t200 t201 t202 t203 t204 t205 t206 t207) else (none)) = some r := by first | (rw [hy227]; with_reducible exact H) | (have H2_ := (Option.bind_some _ _).symm.trans H; rw [hy227]; with_reducible exact H2_) | (have H2_ := (Option.bind_some _ _).symm.trans H; with_reducible exact H2_) | with_reducible exact H | (rw [hy227]; exact H) | exact H
                     have Ny227 := Aside0.mk hy227
                     clear hy227
                     by_cases c54 : x3_3.length < 8796093022208
                     ·
                      rw [if_pos c54] at H
                      have LMc54 := Aside0.mk c54
                      clear c54
                      obtain ⟨y228, hy228⟩ : ∃ y_ : List ByteArray, y_ = (x3_3 ++ [strOfNums y227]) := ⟨_, rfl⟩
                      replace H : (quilllaw25_CodecBytes.l1 k3 y228 x4_1 t211 t212 0 t216 (wrap64 (x10_3 + 1)) l0_0 l0_1 t199 t200 t201 t202 t203 t204 t205 t206 t207) = some r := by first | (rw [hy228]; with_reducible exact H) | (have H2_ := (Option.bind_some _ _).symm.trans H; rw [hy228]; with_reducible exact H2_) | (have H2_ := (Option.bind_some _ _).symm.trans H; with_reducible exact H2_) | with_reducible exact H | (rw [hy228]; exact H) | exact H
                      have Ny228 := Aside0.mk hy228
                      clear hy228
                      have H' := Aside0.mk H
                      clear H
                      try go_wp2_with (first | ((with_reducible refine gate_dst (N := 69) rfl ?_); refine conv_ (some 69) rfl rfl (.string t216) rfl (by first | rfl | (simp; done)) ?_; (with_reducible refine (cv_9_39.calls t216 t223 _ A47.out).mono ?_); rintro e w55 ⟨v224, rfl, ho0, hb⟩; refine ⟨_, rfl, ?_⟩; have n0_ := Aside0.mk (Kd.R_below (by (with_reducible repeat (first | apply Kd.R_alloc | apply Kd.R_drewN | apply Kd.R_drew)); exact HO_3.out) hb); have n1_ := Aside0.mk (Kd.R_below (by (with_reducible repeat (first | apply Kd.R_alloc | apply Kd.R_drewN | apply Kd.R_drew)); exact HO_211008.out) hb); have n2_ := Aside0.mk (MB_lower ho0 (below_size (by repeat (first | (with_reducible first | exact HB.out | apply below_alloc | apply pw_below_drewN | apply below_drew1 | refine below_set ?_ GE193.out | refine below_set ?_ GE210.out) | exact HB.out)))); have n3_ := Aside0.mk (blk_below (g := gb193) (o := .cells #[.slice (some ad198) l0_0.length c0_0, .slice A0_1 l0_1.length c0_1] 25 (0, 0)) (by (with_reducible repeat (first | refine blk_drewN ?_ _ | refine blk_drew ?_ | refine blk_alloc ?_ _)); exact BK193.out) hb); have n4_ := Aside0.mk (blk_below (g := gb210) (o := .cells #[.int .i64 t199, .int .i64 t200, .int .i64 t201, .int .i64 t202, .int .i64 t203, .int .i64 t204, .int .i64 t205, .int .i64 t206, .slice Ao29 t207.length co29] 32 (0, 0)) (by (with_reducible repeat (first | refine blk_drewN ?_ _ | refine blk_drew ?_ | refine blk_alloc ?_ _)); exact BK210.out) hb); have n5_ := Aside0.mk (below_step (by repeat (first | (with_reducible first | exact HB.out | apply below_alloc | apply pw_below_drewN | apply below_drew1 | refine below_set ?_ GE193.out | refine below_set ?_ GE210.out) | exact HB.out)) hb); clear HO_3; clear HO_211008; clear BK193; clear BK210; clear HB; have HO_3 := n0_; have HO_211008 := n1_; have HO225 := n2_; have BK193 := n3_; have BK210 := n4_; have HB := n5_; clear n0_ n1_ n2_ n3_ n4_ n5_; (try clear hb); (try clear hb2); (try clear hk); (try clear hi); (try clear ho0)))
                      have n0_ := Aside0.mk (Kd.R_drew HO_3.out)
                      have n1_ := Aside0.mk (Kd.R_drew HO_211008.out)
                      have n2_ := Aside0.mk (MB_drew HO225.out)
                      have n3_ := Aside0.mk (blk_drew BK193.out)
                      have n4_ := Aside0.mk (blk_drew BK210.out)
                      have n5_ := Aside0.mk (below_drew1 HB.out)
                      clear HO_3
                      clear HO_211008
                      clear HO225
                      clear BK193
                      clear BK210
                      clear HB
                      have HO_3 := n0_
                      have HO_211008 := n1_
                      have HO225 := n2_
                      have BK193 := n3_
                      have BK210 := n4_
                      have HB := n5_
                      clear n0_ n1_ n2_ n3_ n4_ n5_
                      obtain ⟨Ao57, co57, eo57⟩ := MB_slice HO225.out
                      (first | subst eo57 | (injection eo57 with f1_ f2_ f3_; have f4_ := f1_.symm; have f5_ := f3_.symm; clear f1_ f2_ f3_; subst f4_; subst f5_))
                      have p226 : 0 ≤ (x10_3 : Int) := of_decide_eq_true (by first | (with_reducible assumption) | assumption)
                      have q226 : x10_3 < (t223.length : Int) := of_decide_eq_true (by first | (with_reducible assumption) | assumption)
                      obtain ⟨ad226, e226, hx226_0⟩ := Kd.at_int (MB_reads HO225.out).2.2 x10_3 p226 q226
                      cases e226
                      replace p226 := eq_true p226
                      replace q226 := eq_true q226
                      have p53 : 0 ≤ (x10_3 : Int) := of_decide_eq_true (by first | (with_reducible assumption) | assumption)
                      have q53 : (x10_3 : Int) < ((t223.length : Int) : Int) := of_decide_eq_true (by first | (with_reducible assumption) | assumption)
                      obtain ⟨go53, co53, eo53, gb53, gl53, cl53, HG53⟩ := MB_form HO225.out (by omega)
                      (first | cases eo53 | (injection eo53 with ea_ en_ ec_; (first | subst ea_ | (injection ea_ with ea_; subst ea_)); subst ec_; clear en_))
                      have GB53 := Aside0.mk gb53
                      have GG53 := Aside0.mk HG53
                      clear gb53 gl53 HG53
                      (first | simp only [add_plain] at hx226_0 | skip)
                      obtain ⟨hx53_0, hf53_0⟩ := MB_cell HO225.out (x10_3 : Int) p53 q53
                      replace p53 := eq_true p53
                      replace q53 := eq_true q53
                      have HP58 := MB_put HO225.out (x10_3 : Int) (Go.bits .xor .u8 (rd t223 x10_3) (ji52))
                      rw [← Ny227.out] at HP58
                      have HQ58 := Aside0.mk HP58
                      clear HP58
                      refine start_ (n := 14) (S := fun w' => w'.cell? ⟨go53, (x10_3).toNat, none⟩ = some (.int .u8 (rd t223 x10_3))) (ds := [13]) #[false, false, false, false, false, false, false, false, false, false, false, false, false, false] (by kernel_rfl) rfl rfl (hx226_0) (fun hHeld => ?_); refine with_tabW quilllaw25_CodecBytes.tab17 quilllaw25_CodecBytes.bits17 (fun HT_ HW_ => ?_)
                      generalize w55.drew = w56 at HO_3 HO_211008 HO225 BK193 BK210 HB GG53 HQ58 hf53_0 hx226_0 hx53_0 hHeld ⊢
                      refine pure_ (i := 0) (N := some 70) (v := ?_) (a' := ?_) #[true, false, false, false, false, false, false, false, false, false, false, false, false, false] rfl rfl (any_of HT_.out (by kernel_rfl)) (fun _ _ _ h => h) (Or.inl ⟨by rfl, ?_⟩) ?_ ?_
                      rotate_left
                      ·
                       intro w'
                       go_simp
                       with_reducible rfl
                      rotate_left
                      ·
                       simp only [Act.put, List.setIfInBounds_toArray, List.set_cons_zero, List.set_cons_succ, i64_w, i32_w]
                       rfl
                      refine pure_ (i := 1) (N := some 71) (v := ?_) (a' := ?_) #[true, true, false, false, false, false, false, false, false, false, false, false, false, false] rfl rfl (any_of HT_.out (by kernel_rfl)) (fun _ _ _ h => h) (Or.inl ⟨by rfl, ?_⟩) ?_ ?_
                      rotate_left
                      ·
                       intro w'
                       go_simp
                       with_reducible rfl
                      rotate_left
                      ·
                       simp only [Act.put, List.setIfInBounds_toArray, List.set_cons_zero, List.set_cons_succ, i64_w, i32_w]
                       rfl
                      refine pure_ (i := 2) (N := some 72) (v := ?_) (a' := ?_) #[true, true, true, false, false, false, false, false, false, false, false, false, false, false] rfl rfl (any_of HT_.out (by kernel_rfl)) (fun _ _ _ h => h) (Or.inl ⟨by rfl, ?_⟩) ?_ ?_
                      rotate_left
                      ·
                       intro w'
                       go_simp
                       with_reducible rfl
                      rotate_left
                      ·
                       simp only [Act.put, List.setIfInBounds_toArray, List.set_cons_zero, List.set_cons_succ, i64_w, i32_w]
                       rfl
                      refine pure_ (i := 3) (N := some 73) (v := ?_) (a' := ?_) #[true, true, true, true, false, false, false, false, false, false, false, false, false, false] rfl rfl (any_of HT_.out (by kernel_rfl)) (fun _ _ _ h => h) (Or.inl ⟨by rfl, ?_⟩) ?_ ?_
                      rotate_left
                      ·
                       intro w'
                       go_simp
                       with_reducible rfl
                      rotate_left
                      ·
                       simp only [Act.put, List.setIfInBounds_toArray, List.set_cons_zero, List.set_cons_succ, i64_w, i32_w]
                       rfl
                      refine pure_ (i := 4) (N := some 74) (v := ?_) (a' := ?_) #[true, true, true, true, true, false, false, false, false, false, false, false, false, false] rfl rfl (any_of HT_.out (by kernel_rfl)) (fun _ _ _ h => h) (Or.inl ⟨by rfl, ?_⟩) ?_ ?_
                      rotate_left
                      ·
                       intro w'
                       go_simp
                       with_reducible rfl
                      rotate_left
                      ·
                       simp only [Act.put, List.setIfInBounds_toArray, List.set_cons_zero, List.set_cons_succ, i64_w, i32_w]
                       rfl
                      refine pure_ (i := 6) (N := some 76) (v := ?_) (a' := ?_) #[true, true, true, true, true, false, true, false, false, false, false, false, false, false] rfl rfl (any_of HT_.out (by kernel_rfl)) (fun _ _ _ h => h) (Or.inl ⟨by rfl, ?_⟩) ?_ ?_
                      rotate_left
                      ·
                       intro w'
                       go_simp
                       with_reducible rfl
                      rotate_left
                      ·
                       simp only [Act.put, List.setIfInBounds_toArray, List.set_cons_zero, List.set_cons_succ, i64_w, i32_w]
                       rfl
                      refine pure_ (i := 7) (N := some 77) (v := ?_) (a' := ?_) #[true, true, true, true, true, false, true, true, false, false, false, false, false, false] rfl rfl (any_of HT_.out (by kernel_rfl)) (fun _ _ _ h => h) (Or.inl ⟨by rfl, ?_⟩) ?_ ?_
                      rotate_left
                      ·
                       intro w'
                       go_simp
                       with_reducible rfl
                      rotate_left
                      ·
                       simp only [Act.put, List.setIfInBounds_toArray, List.set_cons_zero, List.set_cons_succ, i64_w, i32_w]
                       rfl
                      refine pure_ (i := 8) (N := some 78) (v := ?_) (a' := ?_) #[true, true, true, true, true, false, true, true, true, false, false, false, false, false] rfl rfl (any_of HT_.out (by kernel_rfl)) (fun _ _ _ h => h) (Or.inl ⟨by rfl, ?_⟩) ?_ ?_
                      rotate_left
                      ·
                       intro w'
                       go_simp
                       with_reducible rfl
                      rotate_left
                      ·
                       simp only [Act.put, List.setIfInBounds_toArray, List.set_cons_zero, List.set_cons_succ, i64_w, i32_w]
                       rfl
                      refine pure_ (i := 9) (N := some 79) (v := ?_) (a' := ?_) #[true, true, true, true, true, false, true, true, true, true, false, false, false, false] rfl rfl (any_of HT_.out (by kernel_rfl)) (fun _ _ _ h => h) (Or.inl ⟨by rfl, ?_⟩) ?_ ?_
                      rotate_left
                      ·
                       intro w'
                       go_simp
                       with_reducible rfl
                      rotate_left
                      ·
                       simp only [Act.put, List.setIfInBounds_toArray, List.set_cons_zero, List.set_cons_succ, i64_w, i32_w]
                       rfl
                      refine pure_ (i := 10) (N := some 80) (v := ?_) (a' := ?_) #[true, true, true, true, true, false, true, true, true, true, true, false, false, false] rfl rfl (any_of HT_.out (by kernel_rfl)) (fun _ _ _ h => h) (Or.inl ⟨by rfl, ?_⟩) ?_ ?_
                      rotate_left
                      ·
                       intro w'
                       go_simp
                       with_reducible rfl
                      rotate_left
                      ·
                       simp only [Act.put, List.setIfInBounds_toArray, List.set_cons_zero, List.set_cons_succ, i64_w, i32_w]
                       rfl
                      refine take_ (i := 5) (N := some 75) (v := ?_) (a' := ?_) #[true, true, true, true, true, true, true, true, true, true, true, false, false, false] rfl rfl (take_ofW HT_.out HW_.out (by kernel_rfl)) (fun _ _ _ h => h) (Or.inl ⟨by rfl, ?_⟩) hHeld ?_ ?_
                      rotate_left
                      ·
                       intro w' s0
                       go_simp
                       with_reducible rfl
                      rotate_left
                      ·
                       simp only [Act.put, List.setIfInBounds_toArray, List.set_cons_zero, List.set_cons_succ, i64_w, i32_w]
                       rfl
                      refine pure_ (i := 11) (N := some 81) (v := ?_) (a' := ?_) #[true, true, true, true, true, true, true, true, true, true, true, true, false, false] rfl rfl (any_of HT_.out (by kernel_rfl)) (fun _ _ _ h => h) (Or.inl ⟨by rfl, ?_⟩) ?_ ?_
                      rotate_left
                      ·
                       intro w'
                       go_simp
                       with_reducible rfl
                      rotate_left
                      ·
                       simp only [Act.put, List.setIfInBounds_toArray, List.set_cons_zero, List.set_cons_succ, i64_w, i32_w]
                       rfl
                      refine pure_ (i := 12) (N := some 82) (v := ?_) (a' := ?_) #[true, true, true, true, true, true, true, true, true, true, true, true, true, false] rfl rfl (any_of HT_.out (by kernel_rfl)) (fun _ _ _ h => h) (Or.inl ⟨by rfl, ?_⟩) ?_ ?_
                      rotate_left
                      ·
                       intro w'
                       go_simp
                       with_reducible rfl
                      rotate_left
                      ·
                       simp only [Act.put, List.setIfInBounds_toArray, List.set_cons_zero, List.set_cons_succ, i64_w, i32_w]
                       rfl
                      refine last_ (i := 13) (N := none) #[true, true, true, true, true, true, true, true, true, true, true, true, true, true] rfl rfl (one_of HT_.out (by kernel_rfl)) (by decide) (fun K hK => ?_)
                      refine skip_ (w1 := ?_) (by rfl) rfl ?_ ?_
                      rotate_left
                      ·
                       go_simp
                       rfl
                      refine hK.out _ _ ?_
                      clear hK K
                      refine done_ (done_of HT_.out (by kernel_rfl)) ?_
                      have hcv59 := MB_string (P := Try.prog) Try.underlying39 Try.underlying5 Try.underlying9 HQ58.out
                      try go_wp2_with (first | ((with_reducible refine gate_builtin (b := .append) (xs := #[.tmp 83, .tmp 86]) rfl ?_); at_builtin; refine Kd.R_append Kd.string (w0 := w) w.heap.size rfl (.tmp 83) (.tmp 86) 23 9 (.string ⟨#[]⟩) 16 rfl Try.underlying23 info9 rfl (by decide) (by omega) u3 x3_3 (strOfNums y227) [.string (strOfNums y227)] (fun _ => True) (fun _ => False) rfl (by first | (go_simp; done) | (go_simp; rfl)) ?aP (fun _ hk => hk.elim) ?aF ?aO ?aB ?aS ?aL ?_; (case aP => exact rfl); (case aB => exact (by repeat (first | (with_reducible first | exact HB.out | apply below_alloc | apply pw_below_drewN | apply below_drew1 | refine below_set ?_ GB53.out | refine below_set ?_ GE193.out | refine below_set ?_ GE210.out) | exact HB.out))); (case aF => exact (fun _ _ => trivial)); (case aO => exact (by (with_reducible repeat (first | apply Kd.R_alloc | apply Kd.R_drewN | apply Kd.R_drew)); exact Kd.R_mono (Kd.R_far (p := ⟨go53, (x10_3 : Int).toNat, none⟩) (R_typesM HO_3.out GG53.out (by decide)) (fun _ hk => hk.2) (.int .u8 (Go.bits .xor .u8 (rd t223 x10_3) (ji52)))) (fun _ hk => trivial))); (case aS => exact (below_size (by repeat (first | (with_reducible first | exact HB.out | apply below_alloc | apply pw_below_drewN | apply below_drew1 | refine below_set ?_ GB53.out | refine below_set ?_ GE193.out | refine below_set ?_ GE210.out) | exact HB.out)))); (case aL => have := LMc54.out; omega); intro v229 w60 ho hb hg hat; rw [← Ny228.out] at ho; have n0_ := Aside0.mk (Kd.R_over' (by (with_reducible repeat (first | apply Kd.R_alloc | apply Kd.R_drewN | apply Kd.R_drew)); exact (Kd.R_mono (Kd.R_far (p := ⟨go53, (x10_3 : Int).toNat, none⟩) (R_typesM HO_211008.out GG53.out (by decide)) (fun _ hk => hk.2) (.int .u8 (Go.bits .xor .u8 (rd t223 x10_3) (ji52)))) (fun _ h_ => h_.1))) (Kd.R_typed (by (with_reducible repeat (first | apply Kd.R_alloc | apply Kd.R_drewN | apply Kd.R_drew)); exact (Kd.R_mono (Kd.R_far (p := ⟨go53, (x10_3 : Int).toNat, none⟩) (R_typesM HO_3.out GG53.out (by decide)) (fun _ hk => hk.2) (.int .u8 (Go.bits .xor .u8 (rd t223 x10_3) (ji52)))) (fun _ h_ => h_.1)))) (by decide) hg); have n1_ := Aside0.mk (blk_grown (g := gb193) (o := .cells #[.slice (some ad198) l0_0.length c0_0, .slice A0_1 l0_1.length c0_1] 25 (0, 0)) (by (with_reducible repeat (first | refine blk_drewN ?_ _ | refine blk_drew ?_ | refine blk_alloc ?_ _)); refine blk_far ?_ (by have h_ := MB_ne HO225.out BK193.out (by decide); intro e_; exact h_ (by rw [e_]; rfl)) _; (with_reducible repeat (first | refine blk_drewN ?_ _ | refine blk_drew ?_ | refine blk_alloc ?_ _)); exact BK193.out) hg (Kd.R_ne HO_3.out BK193.out (by decide))); have n2_ := Aside0.mk (blk_grown (g := gb210) (o := .cells #[.int .i64 t199, .int .i64 t200, .int .i64 t201, .int .i64 t202, .int .i64 t203, .int .i64 t204, .int .i64 t205, .int .i64 t206, .slice Ao29 t207.length co29] 32 (0, 0)) (by (with_reducible repeat (first | refine blk_drewN ?_ _ | refine blk_drew ?_ | refine blk_alloc ?_ _)); refine blk_far ?_ (by have h_ := MB_ne HO225.out BK210.out (by decide); intro e_; exact h_ (by rw [e_]; rfl)) _; (with_reducible repeat (first | refine blk_drewN ?_ _ | refine blk_drew ?_ | refine blk_alloc ?_ _)); exact BK210.out) hg (Kd.R_ne HO_3.out BK210.out (by decide))); have n3_ := Aside0.mk trivial; have n4_ := Aside0.mk (hb); have n5_ := Aside0.mk (ho); clear HO_211008; clear BK193; clear BK210; clear HO225; clear HB; clear HO_3; have HO_211008 := n0_; have BK193 := n1_; have BK210 := n2_; have HO225 := n3_; have HB := n4_; have HO230 := n5_; clear n0_ n1_ n2_ n3_ n4_ n5_; clear ho hb hg hat))
                      go_roundg k3
                      case measure => have := HK1.out; have := HJ12.out; have := HK3.out; omega
                      case rel => exact ⟨(y228), (wrap64 (x10_3 + 1)), (by first | rfl | (simp; done) | (simp [*]; done)), H', ⟨by have := HK1.out; have := HJ12.out; have := HK3.out; omega⟩, ⟨by (with_reducible repeat (first | apply Kd.R_alloc | apply Kd.R_drewN | apply Kd.R_drew)); exact HO230.out⟩, ⟨by (with_reducible repeat (first | apply Kd.R_alloc | apply Kd.R_drewN | apply Kd.R_drew)); exact HO_211008.out⟩, ⟨by (with_reducible repeat (first | refine blk_drewN ?_ _ | refine blk_drew ?_ | refine blk_alloc ?_ _)); exact BK193.out⟩, ⟨by (with_reducible repeat (first | refine blk_drewN ?_ _ | refine blk_drew ?_ | refine blk_alloc ?_ _)); exact BK210.out⟩, ⟨by repeat (first | (with_reducible first | exact HB.out | apply below_alloc | apply pw_below_drewN | apply below_drew1 | refine below_set ?_ GE193.out | refine below_set ?_ GE210.out) | exact HB.out)⟩⟩
                     ·
                      rw [if_neg c54] at H
                      exact absurd H (by simp)
                    ·
                     rw [if_neg c51] at H
                     exact absurd H (by simp)
                   ·
                    rw [if_neg c49] at H
                    exact absurd H (by simp)
                  ·
                   rw [if_neg c48] at H
                   exact absurd H (by simp)
                 ·
                  rw [if_neg c46] at H
                  have c46b0 : decide (x10_3 < 21) = false := decide_eq_false c46
                  clear c46
                  (first | rw [c46b0] | (simp only [i64_w, i32_w]; rw [c46b0]) | skip)
                  have H' := Aside0.mk H
                  clear H
                  go_wp2
                  go_meet
                  case rel => exact ⟨_, (x3_3), (0), (t216), (by first | rfl | (simp; done) | (simp [*]; done)), (by first | rfl | (simp; done) | (simp [*]; done)), H', ⟨by have := HK1.out; have := HJ12.out; have := HK3.out; first | omega | exact Nat.le_refl _⟩, ⟨by (with_reducible repeat (first | apply Kd.R_alloc | apply Kd.R_drewN | apply Kd.R_drew)); exact HO_3.out⟩, ⟨by (with_reducible repeat (first | apply Kd.R_alloc | apply Kd.R_drewN | apply Kd.R_drew)); exact HO_211008.out⟩, ⟨by (with_reducible repeat (first | refine blk_drewN ?_ _ | refine blk_drew ?_ | refine blk_alloc ?_ _)); exact BK193.out⟩, ⟨by (with_reducible repeat (first | refine blk_drewN ?_ _ | refine blk_drew ?_ | refine blk_alloc ?_ _)); exact BK210.out⟩, ⟨by repeat (first | (with_reducible first | exact HB.out | apply below_alloc | apply pw_below_drewN | apply below_drew1 | refine below_set ?_ GE193.out | refine below_set ?_ GE210.out) | exact HB.out)⟩⟩
              ·
               rw [if_neg c38] at H
               exact absurd H (by simp)
             ·
              rw [if_neg c37] at H
              exact absurd H (by simp)
            ·
             rw [if_neg c36] at H
             exact absurd H (by simp)
           ·
            rw [if_neg c35] at H
            exact absurd H (by simp)
          ·
           replace c33 := Bool.eq_false_iff.mpr c33
           subst c33
           have H1 : (quilllaw25_CodecBytes.j3 kj12 x3_1 x4_1 t211 t212 1 (⟨#[]⟩ : ByteArray) l0_0 l0_1 t199 t200 t201 t202 t203 t204 t205 t206 t207) = some r := by rw [if_neg (show ¬ (false = true) by decide)] at H; exact H
           clear H
           have H := H1
           clear H1
           have H' := Aside0.mk H
           clear H
           go_wp2
           go_meet
           case rel => exact ⟨_, (x3_1), (1), ((⟨#[]⟩ : ByteArray)), (by first | rfl | (simp; done) | (simp [*]; done)), (by first | rfl | (simp; done) | (simp [*]; done)), H', ⟨by have := HK1.out; have := HJ12.out; first | omega | exact Nat.le_refl _⟩, ⟨by (with_reducible repeat (first | apply Kd.R_alloc | apply Kd.R_drewN | apply Kd.R_drew)); exact HO_3.out⟩, ⟨by (with_reducible repeat (first | apply Kd.R_alloc | apply Kd.R_drewN | apply Kd.R_drew)); exact HO209.out⟩, ⟨by (with_reducible repeat (first | refine blk_drewN ?_ _ | refine blk_drew ?_ | refine blk_alloc ?_ _)); exact BK193.out⟩, ⟨by (with_reducible repeat (first | refine blk_drewN ?_ _ | refine blk_drew ?_ | refine blk_alloc ?_ _)); exact BK210.out⟩, ⟨by repeat (first | (with_reducible first | exact HB.out | apply below_alloc | apply pw_below_drewN | apply below_drew1 | refine below_set ?_ GE193.out | refine below_set ?_ GE210.out) | exact HB.out)⟩⟩
         case rest =>
          clear HC23
          try clear c1
          try clear p1
          try clear q1
          try clear hx1
          try clear c2
          try clear p2
          try clear q2
          try clear hx2
          try clear c3
          try clear c4
          try clear c5
          try clear p5
          try clear q5
          try clear hx5
          try clear hcv5
          try clear hf5
          try clear p6
          try clear c8
          try clear c9
          try clear c10
          try clear c11
          try clear c12
          try clear c13
          try clear c14
          try clear c14b0
          try clear c17
          try clear c18
          try clear c18b0
          try clear c19
          try clear c19b0
          try clear p19
          try clear q19
          try clear hx19
          try clear c21
          try clear p21
          try clear q21
          try clear hx21
          try clear p22
          try clear q22
          try clear hx22
          try clear c27
          try clear c33
          try clear c35
          try clear c35b0
          try clear c35b1
          try clear c35b2
          try clear c36
          try clear c36b0
          try clear c36b1
          try clear c37
          try clear c37b0
          try clear c37b1
          try clear c38
          try clear c39
          try clear c46
          try clear c46b0
          try clear c48
          try clear c48b0
          try clear c49
          try clear c49b0
          try clear c51
          try clear c51b0
          try clear c51b1
          try clear p53
          try clear q53
          try clear hx53
          try clear hf53
          try clear c54
          try clear hcv59
          try clear hcz11_0
          try clear hcz11_1
          try clear hcz15_0
          try clear hcz15_1
          try clear hcz16_0
          try clear hcz16_1
          try clear hcz24_0
          try clear hcz24_1
          try clear hcz28_0
          try clear hcz28_1
          try clear hcz28_2
          try clear hcz28_3
          try clear hcz28_4
          try clear hcz28_5
          try clear hcz28_6
          try clear hcz28_7
          try clear hcz28_8
          try clear hcz31_0
          try clear hcz31_1
          try clear hcz40_0
          try clear hcz40_1
          try clear hcz5_0
          try clear hcz5_1
          try clear hcz9_0
          try clear hcz9_1
          try clear hfz11_0
          try clear hfz11_1
          try clear hfz15_0
          try clear hfz15_1
          try clear hfz16_0
          try clear hfz16_1
          try clear hfz24_0
          try clear hfz24_1
          try clear hfz28_0
          try clear hfz28_1
          try clear hfz28_2
          try clear hfz28_3
          try clear hfz28_4
          try clear hfz28_5
          try clear hfz28_6
          try clear hfz28_7
          try clear hfz28_8
          try clear hfz31_0
          try clear hfz31_1
          try clear hfz40_0
          try clear hfz40_1
          try clear hfz5_0
          try clear hfz5_1
          try clear hfz9_0
          try clear hfz9_1
          try clear hx198_0
          try clear hx198_1
          try clear hx198_2
          try clear hx198_3
          try clear hx198_4
          try clear hx198_5
          try clear hx198_6
          try clear hx198_7
          try clear hx198_8
          try clear hx213_0
          try clear hx213_1
          try clear hx213_2
          try clear hx213_3
          try clear hx213_4
          try clear hx213_5
          try clear hx213_6
          try clear hx213_7
          try clear hx213_8
          try clear hx215_0
          try clear hx215_1
          try clear hx215_2
          try clear hx215_3
          try clear hx215_4
          try clear hx215_5
          try clear hx215_6
          try clear hx215_7
          try clear hx215_8
          try clear hx226_0
          try clear hx53_0
          try clear p1
          try clear p19
          try clear p198
          try clear p2
          try clear p21
          try clear p213
          try clear p215
          try clear p226
          try clear p53
          try clear q1
          try clear q19
          try clear q198
          try clear q2
          try clear q21
          try clear q213
          try clear q215
          try clear q226
          try clear q53
          obtain ⟨kq, x3_22, x8_22, x9_22, rfl, rfl, HA, HJ22, HO_3, HO_211008, BK193, BK210, HB⟩ := hcut
          cases kq with
          | zero => exact absurd HA.out (by simp [quilllaw25_CodecBytes.j3])
          | succ kj22 =>
           have H := HA.out
           clear HA
           simp only [quilllaw25_CodecBytes.j3] at H
           replace H := Option.bind_eq_some_iff.mp H
           obtain ⟨t231, A610, H⟩ := H
           replace H : (if t231 = x8_22 then (if t211.toList = x9_22.toList then (if 0 ≤ x4_1 then (if x4_1 < (l0_0.length : Int) then ((quillref0_EqOp.f kj22 t199 t200 t201 t202 t203 t204 t205 t206 t207 ((rd_T32 l0_0 x4_1).f0) ((rd_T32 l0_0 x4_1).f1.f0) ((rd_T32 l0_0 x4_1).f1.f1) ((rd_T32 l0_0 x4_1).f2.f0) ((rd_T32 l0_0 x4_1).f2.f1) ((rd_T32 l0_0 x4_1).f3) ((rd_T32 l0_0 x4_1).f4) ((rd_T32 l0_0 x4_1).f5) ((rd_T32 l0_0 x4_1).f6)).bind fun t233 => (if t233 = true then (quilllaw25_CodecBytes.l0 kj22 x3_22 (wrap64 (x4_1 + 1)) l0_0 l0_1) else (some false))) else (none)) else (none)) else (some false)) else (some false)) = some r := H
           have A61 := Aside0.mk A610
           clear A610
           by_cases c62 : t231 = x8_22
           ·
            rw [if_pos c62] at H
            have c62s := Aside0.mk c62
            have c62b0 : (t231 == x8_22) = true := beq_iff_eq.mpr c62
            have c62b1 : (t231 != x8_22) = false := bne_eq_false_iff_eq.mpr c62
            clear c62
            by_cases c63 : t211.toList = x9_22.toList
            ·
             rw [if_pos c63] at H
             have c63b0 : (t211.toList == x9_22.toList) = true := beq_iff_eq.mpr c63
             have c63b1 : (t211.toList != x9_22.toList) = false := bne_eq_false_iff_eq.mpr c63
             clear c63
             by_cases c64 : 0 ≤ x4_1
             ·
              rw [if_pos c64] at H
              have c64b0 : decide (0 ≤ x4_1) = true := decide_eq_true c64
              clear c64
              by_cases c65 : x4_1 < (l0_0.length : Int)
              ·
               rw [if_pos c65] at H
               have c65b0 : decide (x4_1 < (l0_0.length : Int)) = true := decide_eq_true c65
               clear c65
               replace H := Option.bind_eq_some_iff.mp H
               obtain ⟨t233, A660, H⟩ := H
               replace H : (if t233 = true then (quilllaw25_CodecBytes.l0 kj22 x3_22 (wrap64 (x4_1 + 1)) l0_0 l0_1) else (some false)) = some r := H
               have A66 := Aside0.mk A660
               clear A660
               by_cases c67 : t233 = true
               ·
                subst c67
                have H1 : (quilllaw25_CodecBytes.l0 kj22 x3_22 (wrap64 (x4_1 + 1)) l0_0 l0_1) = some r := by rw [if_pos rfl] at H; exact H
                clear H
                have H := H1
                clear H1
                have H' := Aside0.mk H
                clear H
                try go_wp2
                have n0_ := Aside0.mk (Kd.R_drew HO_3.out)
                have n1_ := Aside0.mk (Kd.R_drew HO_211008.out)
                have n2_ := Aside0.mk (blk_drew BK193.out)
                have n3_ := Aside0.mk (blk_drew BK210.out)
                have n4_ := Aside0.mk (below_drew1 HB.out)
                clear HO_3
                clear HO_211008
                clear BK193
                clear BK210
                clear HB
                have HO_3 := n0_
                have HO_211008 := n1_
                have BK193 := n2_
                have BK210 := n3_
                have HB := n4_
                clear n0_ n1_ n2_ n3_ n4_
                have p232 : 0 ≤ (x4_1 : Int) := of_decide_eq_true (by first | (with_reducible assumption) | assumption)
                have q232 : x4_1 < (l0_0.length : Int) := of_decide_eq_true (by first | (with_reducible assumption) | assumption)
                obtain ⟨ad232, A232_8, c232_8, e232, hx232_0, hx232_1, hx232_2, hx232_3, hx232_4, hx232_5, hx232_6, hx232_7, hx232_8, hl232_8, hi232_8⟩ := at_T32 HR0_0.out x4_1 p232 q232
                have hw232_8 := hx232_8
                have hw232_7 := hx232_7
                have hw232_6 := hx232_6
                have hw232_5 := hx232_5
                have hw232_4 := hx232_4
                have hw232_3 := hx232_3
                have hw232_2 := hx232_2
                have hw232_1 := hx232_1
                have hw232_0 := hx232_0
                obtain rfl : ad198 = ad232 := (by injection e232)
                replace hx232_0 := (HB.out.cell (World.block_lt_of_cell? w _ hx232_0)).trans hx232_0
                replace hx232_1 := (HB.out.cell (World.block_lt_of_cell? w _ hx232_1)).trans hx232_1
                replace hx232_2 := (HB.out.cell (World.block_lt_of_cell? w _ hx232_2)).trans hx232_2
                replace hx232_3 := (HB.out.cell (World.block_lt_of_cell? w _ hx232_3)).trans hx232_3
                replace hx232_4 := (HB.out.cell (World.block_lt_of_cell? w _ hx232_4)).trans hx232_4
                replace hx232_5 := (HB.out.cell (World.block_lt_of_cell? w _ hx232_5)).trans hx232_5
                replace hx232_6 := (HB.out.cell (World.block_lt_of_cell? w _ hx232_6)).trans hx232_6
                replace hx232_7 := (HB.out.cell (World.block_lt_of_cell? w _ hx232_7)).trans hx232_7
                replace hx232_8 := (HB.out.cell (World.block_lt_of_cell? w _ hx232_8)).trans hx232_8
                have HR232_8 := Aside0.mk hi232_8
                have HC232_8 := Aside0.mk hl232_8
                clear hi232_8 hl232_8
                replace p232 := eq_true p232
                replace q232 := eq_true q232
                refine start_ (n := 19) (S := fun w' => w'.cell? ⟨gb210, 0, none⟩ = some (.int .i64 t199) ∧ w'.cell? ⟨gb210, 1, none⟩ = some (.int .i64 t200) ∧ w'.cell? ⟨gb210, 2, none⟩ = some (.int .i64 t201) ∧ w'.cell? ⟨gb210, 3, none⟩ = some (.int .i64 t202) ∧ w'.cell? ⟨gb210, 4, none⟩ = some (.int .i64 t203) ∧ w'.cell? ⟨gb210, 5, none⟩ = some (.int .i64 t204) ∧ w'.cell? ⟨gb210, 6, none⟩ = some (.int .i64 t205) ∧ w'.cell? ⟨gb210, 7, none⟩ = some (.int .i64 t206) ∧ w'.cell? ⟨gb210, 8, none⟩ = some (.slice Ao29 t207.length co29) ∧ w'.cell? ⟨gb193, 0, none⟩ = some (.slice (some ad198) l0_0.length c0_0) ∧ w'.cell? ⟨gb193, 1, none⟩ = some (.slice A0_1 l0_1.length c0_1) ∧ w'.cell? (ad198.add ((x4_1).toNat * 9)) = some (.int .i64 ((rd_T32 l0_0 x4_1).f0)) ∧ w'.cell? ⟨(ad198.add ((x4_1).toNat * 9)).block, (ad198.add ((x4_1).toNat * 9)).off + 1, none⟩ = some (.int .i64 ((rd_T32 l0_0 x4_1).f1.f0)) ∧ w'.cell? ⟨(ad198.add ((x4_1).toNat * 9)).block, (ad198.add ((x4_1).toNat * 9)).off + 2, none⟩ = some (.int .i64 ((rd_T32 l0_0 x4_1).f1.f1)) ∧ w'.cell? ⟨(ad198.add ((x4_1).toNat * 9)).block, (ad198.add ((x4_1).toNat * 9)).off + 3, none⟩ = some (.int .i64 ((rd_T32 l0_0 x4_1).f2.f0)) ∧ w'.cell? ⟨(ad198.add ((x4_1).toNat * 9)).block, (ad198.add ((x4_1).toNat * 9)).off + 4, none⟩ = some (.int .i64 ((rd_T32 l0_0 x4_1).f2.f1)) ∧ w'.cell? ⟨(ad198.add ((x4_1).toNat * 9)).block, (ad198.add ((x4_1).toNat * 9)).off + 5, none⟩ = some (.int .i64 ((rd_T32 l0_0 x4_1).f3)) ∧ w'.cell? ⟨(ad198.add ((x4_1).toNat * 9)).block, (ad198.add ((x4_1).toNat * 9)).off + 6, none⟩ = some (.int .i64 ((rd_T32 l0_0 x4_1).f4)) ∧ w'.cell? ⟨(ad198.add ((x4_1).toNat * 9)).block, (ad198.add ((x4_1).toNat * 9)).off + 7, none⟩ = some (.int .i64 ((rd_T32 l0_0 x4_1).f5)) ∧ w'.cell? ⟨(ad198.add ((x4_1).toNat * 9)).block, (ad198.add ((x4_1).toNat * 9)).off + 8, none⟩ = some (.slice A232_8 ((rd_T32 l0_0 x4_1).f6).length c232_8)) (ds := []) #[false, false, false, false, false, false, false, false, false, false, false, false, false, false, false, false, false, false, false] (by kernel_rfl) rfl rfl ⟨(blk_cell BK210.out 0).trans rfl, (blk_cell BK210.out 1).trans rfl, (blk_cell BK210.out 2).trans rfl, (blk_cell BK210.out 3).trans rfl, (blk_cell BK210.out 4).trans rfl, (blk_cell BK210.out 5).trans rfl, (blk_cell BK210.out 6).trans rfl, (blk_cell BK210.out 7).trans rfl, (blk_cell BK210.out 8).trans rfl, (blk_cell BK193.out 0).trans rfl, (blk_cell BK193.out 1).trans rfl, ((HB.out.cell (World.block_lt_of_cell? w _ hw232_0)).trans hw232_0), ((HB.out.cell (World.block_lt_of_cell? w _ hw232_1)).trans hw232_1), ((HB.out.cell (World.block_lt_of_cell? w _ hw232_2)).trans hw232_2), ((HB.out.cell (World.block_lt_of_cell? w _ hw232_3)).trans hw232_3), ((HB.out.cell (World.block_lt_of_cell? w _ hw232_4)).trans hw232_4), ((HB.out.cell (World.block_lt_of_cell? w _ hw232_5)).trans hw232_5), ((HB.out.cell (World.block_lt_of_cell? w _ hw232_6)).trans hw232_6), ((HB.out.cell (World.block_lt_of_cell? w _ hw232_7)).trans hw232_7), ((HB.out.cell (World.block_lt_of_cell? w _ hw232_8)).trans hw232_8)⟩ (fun hHeld => ?_); refine with_tabW quilllaw25_CodecBytes.tab19 quilllaw25_CodecBytes.bits19 (fun HT_ HW_ => ?_)
                generalize wc.drew = w68 at HO_3 HO_211008 BK193 BK210 HB HR232_8 hx232_0 hx232_1 hx232_2 hx232_3 hx232_4 hx232_5 hx232_6 hx232_7 hx232_8 hHeld ⊢
                refine pure_ (i := 0) (N := some 88) (v := ?_) (a' := ?_) #[true, false, false, false, false, false, false, false, false, false, false, false, false, false, false, false, false, false, false] rfl rfl (any_of HT_.out (by kernel_rfl)) (fun _ _ _ h => h) (Or.inl ⟨by rfl, ?_⟩) ?_ ?_
                rotate_left
                ·
                 intro w'
                 go_simp
                 with_reducible rfl
                rotate_left
                ·
                 simp only [Act.put, List.setIfInBounds_toArray, List.set_cons_zero, List.set_cons_succ, i64_w, i32_w]
                 rfl
                refine pure_ (i := 2) (N := some 90) (v := ?_) (a' := ?_) #[true, false, true, false, false, false, false, false, false, false, false, false, false, false, false, false, false, false, false] rfl rfl (any_of HT_.out (by kernel_rfl)) (fun _ _ _ h => h) (Or.inl ⟨by rfl, ?_⟩) ?_ ?_
                rotate_left
                ·
                 intro w'
                 go_simp
                 with_reducible rfl
                rotate_left
                ·
                 simp only [Act.put, List.setIfInBounds_toArray, List.set_cons_zero, List.set_cons_succ, i64_w, i32_w]
                 rfl
                refine one_ (i := 1) (N := some 89) #[true, true, true, false, false, false, false, false, false, false, false, false, false, false, false, false, false, false, false] rfl rfl (one_of HT_.out (by kernel_rfl)) (by decide) (fun K hK => ?_)
                refine goes_ Try.func14 (by kernel_rfl) rfl #[.int .i64 t212] (by rfl) rfl rfl (by (try simp only [List.map_toArray, List.map_cons, List.map_nil]); first | done | rfl | (simp only [List.length_drop, List.length_take]; rfl)) ?_
                with_reducible refine (quilllaw25_num.calls t212 t231 _ A61.out).mono ?_
                rintro e w' ⟨rfl, ⟨nd, rfl⟩⟩
                refine ⟨_, rfl, ?_⟩
                refine hK.out _ _ ⟨(blk_cell BK210.out 0).trans rfl, (blk_cell BK210.out 1).trans rfl, (blk_cell BK210.out 2).trans rfl, (blk_cell BK210.out 3).trans rfl, (blk_cell BK210.out 4).trans rfl, (blk_cell BK210.out 5).trans rfl, (blk_cell BK210.out 6).trans rfl, (blk_cell BK210.out 7).trans rfl, (blk_cell BK210.out 8).trans rfl, (blk_cell BK193.out 0).trans rfl, (blk_cell BK193.out 1).trans rfl, ((HB.out.cell (World.block_lt_of_cell? w _ hw232_0)).trans hw232_0), ((HB.out.cell (World.block_lt_of_cell? w _ hw232_1)).trans hw232_1), ((HB.out.cell (World.block_lt_of_cell? w _ hw232_2)).trans hw232_2), ((HB.out.cell (World.block_lt_of_cell? w _ hw232_3)).trans hw232_3), ((HB.out.cell (World.block_lt_of_cell? w _ hw232_4)).trans hw232_4), ((HB.out.cell (World.block_lt_of_cell? w _ hw232_5)).trans hw232_5), ((HB.out.cell (World.block_lt_of_cell? w _ hw232_6)).trans hw232_6), ((HB.out.cell (World.block_lt_of_cell? w _ hw232_7)).trans hw232_7), ((HB.out.cell (World.block_lt_of_cell? w _ hw232_8)).trans hw232_8)⟩ (fun hHeld => ?_)
                clear hK K
                refine norm_ (a' := ?_) ?_ ?_
                rotate_left
                ·
                 show Act.put _ (some 89) _ = _
                 simp only [Act.put, List.setIfInBounds_toArray, List.set_cons_zero, List.set_cons_succ, i64_w, i32_w]
                 rfl
                refine pure_ (i := 3) (N := some 91) (v := ?_) (a' := ?_) #[true, true, true, true, false, false, false, false, false, false, false, false, false, false, false, false, false, false, false] rfl rfl (any_of HT_.out (by kernel_rfl)) (fun _ _ _ h => h) (Or.inl ⟨by rfl, ?_⟩) ?_ ?_
                rotate_left
                ·
                 intro w'
                 go_simp
                 with_reducible rfl
                rotate_left
                ·
                 simp only [Act.put, List.setIfInBounds_toArray, List.set_cons_zero, List.set_cons_succ, i64_w, i32_w]
                 rfl
                refine pure_ (i := 4) (N := some 92) (v := ?_) (a' := ?_) #[true, true, true, true, true, false, false, false, false, false, false, false, false, false, false, false, false, false, false] rfl rfl (any_of HT_.out (by kernel_rfl)) (fun _ _ _ h => h) (Or.inl ⟨by rfl, ?_⟩) ?_ ?_
                rotate_left
                ·
                 intro w'
                 go_simp
                 with_reducible rfl
                rotate_left
                ·
                 simp only [Act.put, List.setIfInBounds_toArray, List.set_cons_zero, List.set_cons_succ, i64_w, i32_w]
                 rfl
                refine pure_ (i := 5) (N := some 93) (v := ?_) (a' := ?_) #[true, true, true, true, true, true, false, false, false, false, false, false, false, false, false, false, false, false, false] rfl rfl (any_of HT_.out (by kernel_rfl)) (fun _ _ _ h => h) (Or.inl ⟨by rfl, ?_⟩) ?_ ?_
                rotate_left
                ·
                 intro w'
                 go_simp
                 with_reducible rfl
                rotate_left
                ·
                 simp only [Act.put, List.setIfInBounds_toArray, List.set_cons_zero, List.set_cons_succ, i64_w, i32_w]
                 rfl
                refine pure_ (i := 6) (N := some 94) (v := ?_) (a' := ?_) #[true, true, true, true, true, true, true, false, false, false, false, false, false, false, false, false, false, false, false] rfl rfl (any_of HT_.out (by kernel_rfl)) (fun _ _ _ h => h) (Or.inl ⟨by rfl, ?_⟩) ?_ ?_
                rotate_left
                ·
                 intro w'
                 go_simp
                 with_reducible rfl
                rotate_left
                ·
                 simp only [Act.put, List.setIfInBounds_toArray, List.set_cons_zero, List.set_cons_succ, i64_w, i32_w]
                 rfl
                refine pure_ (i := 7) (N := some 95) (v := ?_) (a' := ?_) #[true, true, true, true, true, true, true, true, false, false, false, false, false, false, false, false, false, false, false] rfl rfl (any_of HT_.out (by kernel_rfl)) (fun _ _ _ h => h) (Or.inl ⟨by rfl, ?_⟩) ?_ ?_
                rotate_left
                ·
                 intro w'
                 go_simp
                 with_reducible rfl
                rotate_left
                ·
                 simp only [Act.put, List.setIfInBounds_toArray, List.set_cons_zero, List.set_cons_succ, i64_w, i32_w]
                 rfl
                refine pure_ (i := 8) (N := some 96) (v := ?_) (a' := ?_) #[true, true, true, true, true, true, true, true, true, false, false, false, false, false, false, false, false, false, false] rfl rfl (any_of HT_.out (by kernel_rfl)) (fun _ _ _ h => h) (Or.inl ⟨by rfl, ?_⟩) ?_ ?_
                rotate_left
                ·
                 intro w'
                 go_simp
                 with_reducible rfl
                rotate_left
                ·
                 simp only [Act.put, List.setIfInBounds_toArray, List.set_cons_zero, List.set_cons_succ, i64_w, i32_w]
                 rfl
                refine pure_ (i := 9) (N := some 97) (v := ?_) (a' := ?_) #[true, true, true, true, true, true, true, true, true, true, false, false, false, false, false, false, false, false, false] rfl rfl (any_of HT_.out (by kernel_rfl)) (fun _ _ _ h => h) (Or.inl ⟨by rfl, ?_⟩) ?_ ?_
                rotate_left
                ·
                 intro w'
                 go_simp
                 with_reducible rfl
                rotate_left
                ·
                 simp only [Act.put, List.setIfInBounds_toArray, List.set_cons_zero, List.set_cons_succ, i64_w, i32_w]
                 rfl
                refine pure_ (i := 11) (N := some 99) (v := ?_) (a' := ?_) #[true, true, true, true, true, true, true, true, true, true, false, true, false, false, false, false, false, false, false] rfl rfl (any_of HT_.out (by kernel_rfl)) (fun _ _ _ h => h) (Or.inl ⟨by rfl, ?_⟩) ?_ ?_
                rotate_left
                ·
                 intro w'
                 go_simp
                 with_reducible rfl
                rotate_left
                ·
                 simp only [Act.put, List.setIfInBounds_toArray, List.set_cons_zero, List.set_cons_succ, i64_w, i32_w]
                 rfl
                refine pure_ (i := 13) (N := some 101) (v := ?_) (a' := ?_) #[true, true, true, true, true, true, true, true, true, true, false, true, false, true, false, false, false, false, false] rfl rfl (any_of HT_.out (by kernel_rfl)) (fun _ _ _ h => h) (Or.inl ⟨by rfl, ?_⟩) ?_ ?_
                rotate_left
                ·
                 intro w'
                 go_simp
                 with_reducible rfl
                rotate_left
                ·
                 simp only [Act.put, List.setIfInBounds_toArray, List.set_cons_zero, List.set_cons_succ, i64_w, i32_w]
                 rfl
                refine take_ (i := 10) (N := some 98) (v := ?_) (a' := ?_) #[true, true, true, true, true, true, true, true, true, true, true, true, false, true, false, false, false, false, false] rfl rfl (take_ofW HT_.out HW_.out (by kernel_rfl)) (fun _ _ _ h => h) (Or.inl ⟨by rfl, ?_⟩) hHeld ?_ ?_
                rotate_left
                ·
                 rintro w' ⟨s0, s1, s2, s3, s4, s5, s6, s7, s8, s9, s10, s11, s12, s13, s14, s15, s16, s17, s18, s19⟩
                 go_simp
                 with_reducible rfl
                rotate_left
                ·
                 simp only [Act.put, List.setIfInBounds_toArray, List.set_cons_zero, List.set_cons_succ, i64_w, i32_w]
                 rfl
                refine take_ (i := 12) (N := some 100) (v := ?_) (a' := ?_) #[true, true, true, true, true, true, true, true, true, true, true, true, true, true, false, false, false, false, false] rfl rfl (take_ofW HT_.out HW_.out (by kernel_rfl)) (fun _ _ _ h => h) (Or.inl ⟨by rfl, ?_⟩) hHeld ?_ ?_
                rotate_left
                ·
                 rintro w' ⟨s0, s1, s2, s3, s4, s5, s6, s7, s8, s9, s10, s11, s12, s13, s14, s15, s16, s17, s18, s19⟩
                 go_simp
                 with_reducible rfl
                rotate_left
                ·
                 simp only [Act.put, List.setIfInBounds_toArray, List.set_cons_zero, List.set_cons_succ, i64_w, i32_w]
                 rfl
                refine pure_ (i := 14) (N := some 102) (v := ?_) (a' := ?_) #[true, true, true, true, true, true, true, true, true, true, true, true, true, true, true, false, false, false, false] rfl rfl (any_of HT_.out (by kernel_rfl)) (fun _ _ _ h => h) (Or.inl ⟨by rfl, ?_⟩) ?_ ?_
                rotate_left
                ·
                 intro w'
                 go_simp
                 with_reducible rfl
                rotate_left
                ·
                 simp only [Act.put, List.setIfInBounds_toArray, List.set_cons_zero, List.set_cons_succ, i64_w, i32_w]
                 rfl
                refine take_ (i := 15) (N := some 103) (v := ?_) (a' := ?_) #[true, true, true, true, true, true, true, true, true, true, true, true, true, true, true, true, false, false, false] rfl rfl (take_ofW HT_.out HW_.out (by kernel_rfl)) (fun _ _ _ h => h) (Or.inl ⟨by rfl, ?_⟩) hHeld ?_ ?_
                rotate_left
                ·
                 rintro w' ⟨s0, s1, s2, s3, s4, s5, s6, s7, s8, s9, s10, s11, s12, s13, s14, s15, s16, s17, s18, s19⟩
                 go_simp
                 with_reducible rfl
                rotate_left
                ·
                 simp only [Act.put, List.setIfInBounds_toArray, List.set_cons_zero, List.set_cons_succ, i64_w, i32_w]
                 rfl
                refine one_ (i := 16) (N := some 104) #[true, true, true, true, true, true, true, true, true, true, true, true, true, true, true, true, true, false, false] rfl rfl (one_of HT_.out (by kernel_rfl)) (by decide) (fun K hK => ?_)
                refine goes_ Try.func15 (by kernel_rfl) rfl #[.agg #[.int .i64 t199, .int .i64 t200, .int .i64 t201, .int .i64 t202, .int .i64 t203, .int .i64 t204, .int .i64 t205, .int .i64 t206, .slice Ao29 t207.length co29], .agg #[.int .i64 ((rd_T32 l0_0 x4_1).f0), .int .i64 ((rd_T32 l0_0 x4_1).f1.f0), .int .i64 ((rd_T32 l0_0 x4_1).f1.f1), .int .i64 ((rd_T32 l0_0 x4_1).f2.f0), .int .i64 ((rd_T32 l0_0 x4_1).f2.f1), .int .i64 ((rd_T32 l0_0 x4_1).f3), .int .i64 ((rd_T32 l0_0 x4_1).f4), .int .i64 ((rd_T32 l0_0 x4_1).f5), .slice A232_8 ((rd_T32 l0_0 x4_1).f6).length c232_8]] (by rfl) rfl rfl (by (try simp only [List.map_toArray, List.map_cons, List.map_nil]); first | done | rfl | (simp only [List.length_drop, List.length_take]; rfl)) ?_
                with_reducible refine (quillref0_EqOp.calls kj22 t199 t200 t201 t202 t203 t204 t205 t206 _ _ t207 ((rd_T32 l0_0 x4_1).f0) ((rd_T32 l0_0 x4_1).f1.f0) ((rd_T32 l0_0 x4_1).f1.f1) ((rd_T32 l0_0 x4_1).f2.f0) ((rd_T32 l0_0 x4_1).f2.f1) ((rd_T32 l0_0 x4_1).f3) ((rd_T32 l0_0 x4_1).f4) ((rd_T32 l0_0 x4_1).f5) _ _ ((rd_T32 l0_0 x4_1).f6) true _ ?side1 ?side2 ?side3 ?side4 A66.out).mono ?_
                (case side1 => repeat (first | exact (Kd.R_reads' HO_211008.out).2.2 | (with_reducible refine Kd.C_alloc ?_ _) | (with_reducible refine Kd.C_drewN ?_ _) | (with_reducible refine Kd.C_drew ?_)))
                (case side2 => exact (Kd.R_reads' HO_211008.out).2.1)
                (case side3 => repeat (first | exact (Kd.C_below HR232_8.out (by repeat (first | (with_reducible first | exact HB.out | apply below_alloc | apply pw_below_drewN | apply below_drew1 | refine below_set ?_ GE193.out | refine below_set ?_ GE210.out) | exact HB.out))) | (with_reducible refine Kd.C_alloc ?_ _) | (with_reducible refine Kd.C_drewN ?_ _) | (with_reducible refine Kd.C_drew ?_)))
                (case side4 => exact HC232_8.out)
                rintro e w69 ⟨rfl, hb⟩
                refine ⟨_, rfl, ?_⟩
                have n0_ := Aside0.mk (Kd.R_below (by (with_reducible repeat (first | apply Kd.R_alloc | apply Kd.R_drewN | apply Kd.R_drew)); exact HO_3.out) hb)
                have n1_ := Aside0.mk (Kd.R_below (by (with_reducible repeat (first | apply Kd.R_alloc | apply Kd.R_drewN | apply Kd.R_drew)); exact HO_211008.out) hb)
                have n2_ := Aside0.mk (blk_below (g := gb193) (o := .cells #[.slice (some ad198) l0_0.length c0_0, .slice A0_1 l0_1.length c0_1] 25 (0, 0)) (by (with_reducible repeat (first | refine blk_drewN ?_ _ | refine blk_drew ?_ | refine blk_alloc ?_ _)); exact BK193.out) hb)
                have n3_ := Aside0.mk (blk_below (g := gb210) (o := .cells #[.int .i64 t199, .int .i64 t200, .int .i64 t201, .int .i64 t202, .int .i64 t203, .int .i64 t204, .int .i64 t205, .int .i64 t206, .slice Ao29 t207.length co29] 32 (0, 0)) (by (with_reducible repeat (first | refine blk_drewN ?_ _ | refine blk_drew ?_ | refine blk_alloc ?_ _)); exact BK210.out) hb)
                have n4_ := Aside0.mk (below_step (by repeat (first | (with_reducible first | exact HB.out | apply below_alloc | apply pw_below_drewN | apply below_drew1 | refine below_set ?_ GE193.out | refine below_set ?_ GE210.out) | exact HB.out)) hb)
                clear HO_3
                clear HO_211008
                clear BK193
                clear BK210
                clear HB
                have HO_3 := n0_
                have HO_211008 := n1_
                have BK193 := n2_
                have BK210 := n3_
                have HB := n4_
                clear n0_ n1_ n2_ n3_ n4_
                (try clear hb)
                (try clear hb2)
                (try clear hk)
                (try clear hi)
                refine hK.out _ _ ⟨(blk_cell BK210.out 0).trans rfl, (blk_cell BK210.out 1).trans rfl, (blk_cell BK210.out 2).trans rfl, (blk_cell BK210.out 3).trans rfl, (blk_cell BK210.out 4).trans rfl, (blk_cell BK210.out 5).trans rfl, (blk_cell BK210.out 6).trans rfl, (blk_cell BK210.out 7).trans rfl, (blk_cell BK210.out 8).trans rfl, (blk_cell BK193.out 0).trans rfl, (blk_cell BK193.out 1).trans rfl, ((HB.out.cell (World.block_lt_of_cell? w _ hw232_0)).trans hw232_0), ((HB.out.cell (World.block_lt_of_cell? w _ hw232_1)).trans hw232_1), ((HB.out.cell (World.block_lt_of_cell? w _ hw232_2)).trans hw232_2), ((HB.out.cell (World.block_lt_of_cell? w _ hw232_3)).trans hw232_3), ((HB.out.cell (World.block_lt_of_cell? w _ hw232_4)).trans hw232_4), ((HB.out.cell (World.block_lt_of_cell? w _ hw232_5)).trans hw232_5), ((HB.out.cell (World.block_lt_of_cell? w _ hw232_6)).trans hw232_6), ((HB.out.cell (World.block_lt_of_cell? w _ hw232_7)).trans hw232_7), ((HB.out.cell (World.block_lt_of_cell? w _ hw232_8)).trans hw232_8)⟩ (fun hHeld => ?_)
                clear hK K
                refine norm_ (a' := ?_) ?_ ?_
                rotate_left
                ·
                 show Act.put _ (some 104) _ = _
                 simp only [Act.put, List.setIfInBounds_toArray, List.set_cons_zero, List.set_cons_succ, i64_w, i32_w]
                 rfl
                refine pure_ (i := 17) (N := some 105) (v := ?_) (a' := ?_) #[true, true, true, true, true, true, true, true, true, true, true, true, true, true, true, true, true, true, false] rfl rfl (any_of HT_.out (by kernel_rfl)) (fun _ _ _ h => h) (Or.inl ⟨by rfl, ?_⟩) ?_ ?_
                rotate_left
                ·
                 intro w'
                 go_simp
                 with_reducible rfl
                rotate_left
                ·
                 simp only [Act.put, List.setIfInBounds_toArray, List.set_cons_zero, List.set_cons_succ, i64_w, i32_w]
                 rfl
                refine pure_ (i := 18) (N := some 106) (v := ?_) (a' := ?_) #[true, true, true, true, true, true, true, true, true, true, true, true, true, true, true, true, true, true, true] rfl rfl (any_of HT_.out (by kernel_rfl)) (fun _ _ _ h => h) (Or.inl ⟨by rfl, ?_⟩) ?_ ?_
                rotate_left
                ·
                 intro w'
                 go_simp
                 with_reducible rfl
                rotate_left
                ·
                 simp only [Act.put, List.setIfInBounds_toArray, List.set_cons_zero, List.set_cons_succ, i64_w, i32_w]
                 rfl
                refine done_ (done_of HT_.out (by kernel_rfl)) ?_
                try go_wp2
                go_roundg kj22
                case measure => have := HK1.out; have := HJ12.out; have := HJ22.out; omega
                case rel => exact ⟨(x3_22), (wrap64 (x4_1 + 1)), (by first | rfl | (simp; done) | (simp [*]; done)), H', ⟨by have := HK1.out; have := HJ12.out; have := HJ22.out; omega⟩, ⟨by (with_reducible repeat (first | apply Kd.R_alloc | apply Kd.R_drewN | apply Kd.R_drew)); exact HO_3.out⟩, ⟨by (with_reducible repeat (first | refine blk_drewN ?_ _ | refine blk_drew ?_ | refine blk_alloc ?_ _)); exact BK193.out⟩, ⟨by repeat (first | (with_reducible first | exact HB.out | apply below_alloc | apply pw_below_drewN | apply below_drew1 | refine below_set ?_ GE193.out | refine below_set ?_ GE210.out) | exact HB.out)⟩⟩
               ·
                replace c67 := Bool.eq_false_iff.mpr c67
                subst c67
                have H1 : (some false) = some r := by rw [if_neg (show ¬ (false = true) by decide)] at H; exact H
                clear H
                have H := H1
                clear H1
                exact absurd (H.trans (congrArg some HRT.out)) (by decide)
              ·
               rw [if_neg c65] at H
               exact absurd H (by simp)
             ·
              rw [if_neg c64] at H
              exact absurd H (by simp)
            ·
             rw [if_neg c63] at H
             have c63b0 : (t211.toList == x9_22.toList) = false := beq_eq_false_iff_ne.mpr c63
             have c63b1 : (t211.toList != x9_22.toList) = true := bne_iff_ne.mpr c63
             exact absurd (H.trans (congrArg some HRT.out)) (by decide)
           ·
            rw [if_neg c62] at H
            have c62b0 : (t231 == x8_22) = false := beq_eq_false_iff_ne.mpr c62
            have c62b1 : (t231 != x8_22) = true := bne_iff_ne.mpr c62
            exact absurd (H.trans (congrArg some HRT.out)) (by decide)
        ·
         rw [if_neg c19] at H
         exact absurd H (by simp)
       ·
        rw [if_neg c18] at H
        exact absurd H (by simp)
      ·
       replace c17 := Bool.eq_false_iff.mpr c17
       subst c17
       have H1 : (quilllaw25_CodecBytes.l2 kj12 x3_1 0) = some r := by rw [if_neg (show ¬ (false = true) by decide)] at H; exact H
       clear H
       have H := H1
       clear H1
       have H' := Aside0.mk H
       clear H
       go_wp2
       go_loopg [12] kj12 (fun kq v12 w' => ∃ (x12_3 : Int), v12 = .int .i64 x12_3 ∧ Aside0 (quilllaw25_CodecBytes.l2 kq x3_1 x12_3 = some r) ∧ Aside0 (kq ≤ kj12) ∧ Aside0 (Kd.R Kd.string 9 w' w.heap.size (fun _ => True) u3 x3_1) ∧ Aside0 (w'.heap[gb193]? = some (.cells #[(.slice A0_0 l0_0.length c0_0), (.slice A0_1 l0_1.length c0_1)] 25 (0, 0))) ∧ Aside0 (Below w.heap.size w w'))
       case atStart => exact ⟨(0), (by first | rfl | (simp; done) | (simp [*]; done)), H', ⟨Nat.le_refl _⟩, ⟨by (with_reducible repeat (first | apply Kd.R_alloc | apply Kd.R_drewN | apply Kd.R_drew)); exact HO_3.out⟩, ⟨by (with_reducible repeat (first | refine blk_drewN ?_ _ | refine blk_drew ?_ | refine blk_alloc ?_ _)); exact BK193.out⟩, ⟨by repeat (first | (with_reducible first | exact HB.out | apply below_alloc | apply pw_below_drewN | apply below_drew1 | refine below_set ?_ GE193.out) | exact HB.out)⟩⟩
       case round =>
        clear H'
        try clear c1
        try clear p1
        try clear q1
        try clear hx1
        try clear c2
        try clear p2
        try clear q2
        try clear hx2
        try clear c3
        try clear c4
        try clear c5
        try clear p5
        try clear q5
        try clear hx5
        try clear hcv5
        try clear hf5
        try clear c6
        try clear p6
        try clear c8
        try clear c9
        try clear c10
        try clear c11
        try clear c12
        try clear c13
        try clear c14
        try clear c14b0
        try clear c15
        try clear c17
        try clear c18
        try clear c18b0
        try clear c19
        try clear c19b0
        try clear p19
        try clear q19
        try clear hx19
        try clear c21
        try clear p21
        try clear q21
        try clear hx21
        try clear p22
        try clear q22
        try clear hx22
        try clear c23
        try clear p23
        try clear q23
        try clear hx23
        try clear c27
        try clear c33
        try clear c35
        try clear c35b0
        try clear c35b1
        try clear c35b2
        try clear c36
        try clear c36b0
        try clear c36b1
        try clear c37
        try clear c37b0
        try clear c37b1
        try clear c38
        try clear c39
        try clear c46
        try clear c46b0
        try clear c48
        try clear c48b0
        try clear c49
        try clear c49b0
        try clear c51
        try clear c51b0
        try clear c51b1
        try clear p53
        try clear q53
        try clear hx53
        try clear hf53
        try clear c54
        try clear hcv59
        try clear c62
        try clear c62b0
        try clear c62b1
        try clear c63
        try clear c63b0
        try clear c63b1
        try clear c64
        try clear c64b0
        try clear p64
        try clear c65
        try clear c65b0
        try clear c67
        try clear hcz11_0
        try clear hcz11_1
        try clear hcz15_0
        try clear hcz15_1
        try clear hcz16_0
        try clear hcz16_1
        try clear hcz24_0
        try clear hcz24_1
        try clear hcz28_0
        try clear hcz28_1
        try clear hcz28_2
        try clear hcz28_3
        try clear hcz28_4
        try clear hcz28_5
        try clear hcz28_6
        try clear hcz28_7
        try clear hcz28_8
        try clear hcz31_0
        try clear hcz31_1
        try clear hcz40_0
        try clear hcz40_1
        try clear hcz5_0
        try clear hcz5_1
        try clear hcz9_0
        try clear hcz9_1
        try clear hfz11_0
        try clear hfz11_1
        try clear hfz15_0
        try clear hfz15_1
        try clear hfz16_0
        try clear hfz16_1
        try clear hfz24_0
        try clear hfz24_1
        try clear hfz28_0
        try clear hfz28_1
        try clear hfz28_2
        try clear hfz28_3
        try clear hfz28_4
        try clear hfz28_5
        try clear hfz28_6
        try clear hfz28_7
        try clear hfz28_8
        try clear hfz31_0
        try clear hfz31_1
        try clear hfz40_0
        try clear hfz40_1
        try clear hfz5_0
        try clear hfz5_1
        try clear hfz9_0
        try clear hfz9_1
        try clear hx198_0
        try clear hx198_1
        try clear hx198_2
        try clear hx198_3
        try clear hx198_4
        try clear hx198_5
        try clear hx198_6
        try clear hx198_7
        try clear hx198_8
        try clear hx213_0
        try clear hx213_1
        try clear hx213_2
        try clear hx213_3
        try clear hx213_4
        try clear hx213_5
        try clear hx213_6
        try clear hx213_7
        try clear hx213_8
        try clear hx215_0
        try clear hx215_1
        try clear hx215_2
        try clear hx215_3
        try clear hx215_4
        try clear hx215_5
        try clear hx215_6
        try clear hx215_7
        try clear hx215_8
        try clear hx226_0
        try clear hx232_0
        try clear hx232_1
        try clear hx232_2
        try clear hx232_3
        try clear hx232_4
        try clear hx232_5
        try clear hx232_6
        try clear hx232_7
        try clear hx232_8
        try clear hx53_0
        try clear p1
        try clear p19
        try clear p198
        try clear p2
        try clear p21
        try clear p213
        try clear p215
        try clear p22
        try clear p226
        try clear p232
        try clear p5
        try clear p53
        try clear p6
        try clear q1
        try clear q19
        try clear q198
        try clear q2
        try clear q21
        try clear q213
        try clear q215
        try clear q22
        try clear q226
        try clear q232
        try clear q5
        try clear q53
        obtain ⟨x12_3, rfl, HA, HK3, HO_3, BK193, HB⟩ := hrel
        cases gk with
        | zero => exact absurd HA.out (by simp [quilllaw25_CodecBytes.l2])
        | succ k3 =>
         have H := HA.out
         clear HA
         simp only [quilllaw25_CodecBytes.l2] at H
         by_cases c70 : x12_3 < (x3_1.length : Int)
         ·
          rw [if_pos c70] at H
          have c70b0 : decide (x12_3 < (x3_1.length : Int)) = true := decide_eq_true c70
          clear c70
          by_cases c71 : 0 ≤ x12_3
          ·
           rw [if_pos c71] at H
           have c71b0 : decide (0 ≤ x12_3) = true := decide_eq_true c71
           clear c71
           replace H := Option.bind_eq_some_iff.mp H
           obtain ⟨⟨t236, t237, t238, t239, t240, t241, t242, t243, t244, t247⟩, A720, H⟩ := H
           replace H : ((quillref24_Take.f k3 (rdOf ByteArray.empty x3_1 x12_3)).bind fun bt250 => ((quilllaw25_num.f t247).bind fun t263 => (if (bt250.2.2.2.2.2.2.2.2.2 != (t263 == 0)) = true then (some false) else (if bt250.2.2.2.2.2.2.2.2.2 = true then ((quillref0_EqOp.f k3 t236 t237 t238 t239 t240 t241 t242 t243 t244 bt250.1 bt250.2.1 bt250.2.2.1 bt250.2.2.2.1 bt250.2.2.2.2.1 bt250.2.2.2.2.2.1 bt250.2.2.2.2.2.2.1 bt250.2.2.2.2.2.2.2.1 bt250.2.2.2.2.2.2.2.2.1).bind fun t264 => (if t264 = true then (quilllaw25_CodecBytes.l2 k3 x3_1 (wrap64 (x12_3 + 1))) else (some false))) else ((quilllaw25_num.f t247).bind fun t265 => (if t265 = 9 then ((quillref0_EqOp.f k3 t236 t237 t238 t239 t240 t241 t242 t243 t244 bt250.1 bt250.2.1 bt250.2.2.1 bt250.2.2.2.1 bt250.2.2.2.2.1 bt250.2.2.2.2.2.1 bt250.2.2.2.2.2.2.1 bt250.2.2.2.2.2.2.2.1 bt250.2.2.2.2.2.2.2.2.1).bind fun t266 => (if t266 = true then (quilllaw25_CodecBytes.l2 k3 x3_1 (wrap64 (x12_3 + 1))) else (some false))) else (some false))))))) = some r := H
           have A72 := Aside0.mk A720
           clear A720
           replace H := Option.bind_eq_some_iff.mp H
           obtain ⟨⟨t250, t251, t252, t253, t254, t255, t256, t257, t258, t261⟩, A730, H⟩ := H
           replace H : ((quilllaw25_num.f t247).bind fun t263 => (if (t261 != (t263 == 0)) = true then (some false) else (if t261 = true then ((quillref0_EqOp.f k3 t236 t237 t238 t239 t240 t241 t242 t243 t244 t250 t251 t252 t253 t254 t255 t256 t257 t258).bind fun t264 => (if t264 = true then (quilllaw25_CodecBytes.l2 k3 x3_1 (wrap64 (x12_3 + 1))) else (some false))) else ((quilllaw25_num.f t247).bind fun t265 => (if t265 = 9 then ((quillref0_EqOp.f k3 t236 t237 t238 t239 t240 t241 t242 t243 t244 t250 t251 t252 t253 t254 t255 t256 t257 t258).bind fun t266 => (if t266 = true then (quilllaw25_CodecBytes.l2 k3 x3_1 (wrap64 (x12_3 + 1))) else (some false))) else (some false)))))) = some r := H
           have A73 := Aside0.mk A730
           clear A730
           replace H := Option.bind_eq_some_iff.mp H
           obtain ⟨t263, A740, H⟩ := H
           replace H : (if (t261 != (t263 == 0)) = true then (some false) else (if t261 = true then ((quillref0_EqOp.f k3 t236 t237 t238 t239 t240 t241 t242 t243 t244 t250 t251 t252 t253 t254 t255 t256 t257 t258).bind fun t264 => (if t264 = true then (quilllaw25_CodecBytes.l2 k3 x3_1 (wrap64 (x12_3 + 1))) else (some false))) else ((quilllaw25_num.f t247).bind fun t265 => (if t265 = 9 then ((quillref0_EqOp.f k3 t236 t237 t238 t239 t240 t241 t242 t243 t244 t250 t251 t252 t253 t254 t255 t256 t257 t258).bind fun t266 => (if t266 = true then (quilllaw25_CodecBytes.l2 k3 x3_1 (wrap64 (x12_3 + 1))) else (some false))) else (some false))))) = some r := H
           have A74 := Aside0.mk A740
           clear A740
           by_cases c75 : (t261 != (t263 == 0)) = true
           ·
            rw [if_pos c75] at H
            have c75b0 : (t261 != (t263 == 0)) = true := c75
            (try (have c75b1 : decide (t261 = (t263 == 0)) = false := by simpa using c75))
            (try (have c75b2 : (t261 == (t263 == 0)) = false := by simpa using c75))
            (try (have c75b3 : ¬ (t261 = (t263 == 0)) := by simpa using c75))
            clear c75
            exact absurd (H.trans (congrArg some HRT.out)) (by decide)
           ·
            rw [if_neg c75] at H
            have c75b0 : (t261 != (t263 == 0)) = false := by simpa using c75
            (try (have c75b1 : decide (t261 = (t263 == 0)) = true := by simpa using c75))
            (try (have c75b2 : (t261 == (t263 == 0)) = true := by simpa using c75))
            clear c75
            by_cases c76 : t261 = true
            ·
             subst c76
             have H1 : ((quillref0_EqOp.f k3 t236 t237 t238 t239 t240 t241 t242 t243 t244 t250 t251 t252 t253 t254 t255 t256 t257 t258).bind fun t264 => (if t264 = true then (quilllaw25_CodecBytes.l2 k3 x3_1 (wrap64 (x12_3 + 1))) else (some false))) = some r := by rw [if_pos rfl] at H; exact H
             clear H
             have H := H1
             clear H1
             replace H := Option.bind_eq_some_iff.mp H
             obtain ⟨t264, A770, H⟩ := H
             replace H : (if t264 = true then (quilllaw25_CodecBytes.l2 k3 x3_1 (wrap64 (x12_3 + 1))) else (some false)) = some r := H
             have A77 := Aside0.mk A770
             clear A770
             by_cases c78 : t264 = true
             ·
              subst c78
              have H1 : (quilllaw25_CodecBytes.l2 k3 x3_1 (wrap64 (x12_3 + 1))) = some r := by rw [if_pos rfl] at H; exact H
              clear H
              have H := H1
              clear H1
              have H' := Aside0.mk H
              clear H
              obtain ⟨Ao79, co79, eo79⟩ := Kd.R_slice HO_3.out
              subst eo79
              have p235 : 0 ≤ (x12_3 : Int) := of_decide_eq_true (by first | (with_reducible assumption) | assumption)
              have q235 : x12_3 < (x3_1.length : Int) := of_decide_eq_true (by first | (with_reducible assumption) | assumption)
              obtain ⟨ad235, e235, hx235_0⟩ := Kd.at_string (Kd.R_reads' HO_3.out).2.2 x12_3 p235 q235
              cases e235
              replace p235 := eq_true p235
              replace q235 := eq_true q235
              go_wp2_with (first | ((with_reducible refine gate_callee (f := 16) rfl ?_); refine goesL_ (some 118) rfl rfl Try.func16 (by kernel_rfl) rfl #[.string (rdOf ByteArray.empty x3_1 x12_3)] rfl (by (try simp only [List.map_toArray, List.map_cons, List.map_nil]); first | done | rfl | (simp only [List.length_drop, List.length_take]; rfl)) ?_; (with_reducible refine (codec_Take.calls (rdOf ByteArray.empty x3_1 x12_3) t236 t237 t238 t239 t240 t241 t242 t243 t244 t247 _ A72.out).mono ?_); rintro e w80 ⟨v245, rfl, ho0, hb⟩; refine ⟨_, rfl, ?_⟩; have n0_ := Aside0.mk (Kd.R_below (by (with_reducible repeat (first | apply Kd.R_alloc | apply Kd.R_drewN | apply Kd.R_drew)); exact HO_3.out) hb); have n1_ := Aside0.mk (Kd.R_lower ho0 (below_size (by repeat (first | (with_reducible first | exact HB.out | apply below_alloc | apply pw_below_drewN | apply below_drew1 | refine below_set ?_ GE193.out) | exact HB.out)))); have n2_ := Aside0.mk (blk_below (g := gb193) (o := .cells #[.slice A0_0 l0_0.length c0_0, .slice A0_1 l0_1.length c0_1] 25 (0, 0)) (by (with_reducible repeat (first | refine blk_drewN ?_ _ | refine blk_drew ?_ | refine blk_alloc ?_ _)); exact BK193.out) hb); have n3_ := Aside0.mk (below_step (by repeat (first | (with_reducible first | exact HB.out | apply below_alloc | apply pw_below_drewN | apply below_drew1 | refine below_set ?_ GE193.out) | exact HB.out)) hb); clear HO_3; clear BK193; clear HB; have HO_3 := n0_; have HO246 := n1_; have BK193 := n2_; have HB := n3_; clear n0_ n1_ n2_ n3_; (try clear hb); (try clear hb2); (try clear hk); (try clear hi); (try clear ho0)) | ((with_reducible refine gate_dst (N := 13) rfl ?_); refine box_event ?hg (N := 13) ?hd (cs := #[.int .i64 0, .int .i64 0, .int .i64 0, .int .i64 0, .int .i64 0, .int .i64 0, .int .i64 0, .int .i64 0, .slice none 0 0]) (t := 32) ?hr ?_; (case hd => rfl); (case hg => rfl); (case hr => first | (go_simp; done) | (go_simp; rfl)); intro gb248 hg w81 hbox hb; have n0_ := Aside0.mk (Kd.R_below (by (with_reducible repeat (first | apply Kd.R_alloc | apply Kd.R_drewN | apply Kd.R_drew)); exact HO_3.out) hb); have n1_ := Aside0.mk (Kd.R_below (by (with_reducible repeat (first | apply Kd.R_alloc | apply Kd.R_drewN | apply Kd.R_drew)); exact HO246.out) hb); have n2_ := Aside0.mk (blk_below (g := gb193) (o := .cells #[.slice A0_0 l0_0.length c0_0, .slice A0_1 l0_1.length c0_1] 25 (0, 0)) (by (with_reducible repeat (first | refine blk_drewN ?_ _ | refine blk_drew ?_ | refine blk_alloc ?_ _)); exact BK193.out) hb); have n3_ := Aside0.mk (below_step (by repeat (first | (with_reducible first | exact HB.out | apply below_alloc | apply pw_below_drewN | apply below_drew1 | refine below_set ?_ GE193.out) | exact HB.out)) hb); have n4_ := Aside0.mk (hbox); have n5_ := Aside0.mk ((by rw [hg]; exact (below_size (by repeat (first | (with_reducible first | exact HB.out | apply below_alloc | apply pw_below_drewN | apply below_drew1 | refine below_set ?_ GE193.out) | exact HB.out))) : w.heap.size ≤ gb248)); have n6_ := Aside0.mk ((by rw [hg]; exact (below_size (by repeat (first | (with_reducible first | exact HB.out | apply below_alloc | apply pw_below_drewN | apply below_drew1 | refine below_set ?_ GE193.out) | exact HB.out))) : w.heap.size ≤ gb248)); have n7_ := Aside0.mk ((by rw [hg]; exact Nat.ne_of_lt (blk_lt (g := gb193) (o := .cells #[.slice A0_0 l0_0.length c0_0, .slice A0_1 l0_1.length c0_1] 25 (0, 0)) (by (with_reducible repeat (first | refine blk_drewN ?_ _ | refine blk_drew ?_ | refine blk_alloc ?_ _)); exact BK193.out)) : gb193 ≠ gb248)); have n8_ := Aside0.mk ((by rw [hg]; exact Nat.ne_of_gt (blk_lt (g := gb193) (o := .cells #[.slice A0_0 l0_0.length c0_0, .slice A0_1 l0_1.length c0_1] 25 (0, 0)) (by (with_reducible repeat (first | refine blk_drewN ?_ _ | refine blk_drew ?_ | refine blk_alloc ?_ _)); exact BK193.out)) : gb248 ≠ gb193)); clear HO_3; clear HO246; clear BK193; clear HB; have HO_3 := n0_; have HO246 := n1_; have BK193 := n2_; have HB := n3_; have BK248 := n4_; have GW248 := n5_; have GE248 := n6_; have NB193_248 := n7_; have NB248_193 := n8_; clear n0_ n1_ n2_ n3_ n4_ n5_ n6_ n7_ n8_; clear hb hbox hg; have hnb82 := NB248_193.out; have hnc82 := NB193_248.out; have hcz83_0 : w81.cell? ⟨gb248, 0, none⟩ = some (.int .i64 0) := (blk_cell BK248.out 0).trans rfl; have hcz83_1 : w81.cell? ⟨gb248, 1, none⟩ = some (.int .i64 0) := (blk_cell BK248.out 1).trans rfl; have hcz83_2 : w81.cell? ⟨gb248, 2, none⟩ = some (.int .i64 0) := (blk_cell BK248.out 2).trans rfl; have hcz83_3 : w81.cell? ⟨gb248, 3, none⟩ = some (.int .i64 0) := (blk_cell BK248.out 3).trans rfl; have hcz83_4 : w81.cell? ⟨gb248, 4, none⟩ = some (.int .i64 0) := (blk_cell BK248.out 4).trans rfl; have hcz83_5 : w81.cell? ⟨gb248, 5, none⟩ = some (.int .i64 0) := (blk_cell BK248.out 5).trans rfl; have hcz83_6 : w81.cell? ⟨gb248, 6, none⟩ = some (.int .i64 0) := (blk_cell BK248.out 6).trans rfl; have hcz83_7 : w81.cell? ⟨gb248, 7, none⟩ = some (.int .i64 0) := (blk_cell BK248.out 7).trans rfl; have hcz83_8 : w81.cell? ⟨gb248, 8, none⟩ = some (.slice none 0 0) := (blk_cell BK248.out 8).trans rfl; have hfz83_0 := blk_frozen BK248.out 0; have hfz83_1 := blk_frozen BK248.out 1; have hfz83_2 := blk_frozen BK248.out 2; have hfz83_3 := blk_frozen BK248.out 3; have hfz83_4 := blk_frozen BK248.out 4; have hfz83_5 := blk_frozen BK248.out 5; have hfz83_6 := blk_frozen BK248.out 6; have hfz83_7 := blk_frozen BK248.out 7; have hfz83_8 := blk_frozen BK248.out 8; obtain ⟨Ao84, co84, eo84⟩ := Kd.R_slice HO246.out; subst eo84; have p249 : 0 ≤ (x12_3 : Int) := of_decide_eq_true (by first | (with_reducible assumption) | assumption); have q249 : x12_3 < (x3_1.length : Int) := of_decide_eq_true (by first | (with_reducible assumption) | assumption); obtain ⟨ad249, e249, hx249_0⟩ := Kd.at_string (Kd.R_reads' HO_3.out).2.2 x12_3 p249 q249; obtain rfl : ad235 = ad249 := (by injection e249); have hn249_0 : ad235.block ≠ gb248 := Kd.own_blk (Kd.R_ne HO_3.out BK248.out (by decide)); have hn249_1 : ad235.block ≠ gb248 := Kd.own_blk (Kd.R_ne HO_3.out BK248.out (by decide)); have hn249_2 : ad235.block ≠ gb248 := Kd.own_blk (Kd.R_ne HO_3.out BK248.out (by decide)); have hn249_3 : ad235.block ≠ gb248 := Kd.own_blk (Kd.R_ne HO_3.out BK248.out (by decide)); have hn249_4 : ad235.block ≠ gb248 := Kd.own_blk (Kd.R_ne HO_3.out BK248.out (by decide)); have hn249_5 : ad235.block ≠ gb248 := Kd.own_blk (Kd.R_ne HO_3.out BK248.out (by decide)); have hn249_6 : ad235.block ≠ gb248 := Kd.own_blk (Kd.R_ne HO_3.out BK248.out (by decide)); have hn249_7 : ad235.block ≠ gb248 := Kd.own_blk (Kd.R_ne HO_3.out BK248.out (by decide)); have hn249_8 : ad235.block ≠ gb248 := Kd.own_blk (Kd.R_ne HO_3.out BK248.out (by decide)); replace hx249_0 := (cell_far (p := ⟨gb248, 0, none⟩) (by first | (rw [add_block]; exact hn249_0) | (show (Addr.add _ _).block ≠ _; rw [add_block]; exact hn249_0) | exact hn249_0) (.int .i64 t236)).trans hx249_0; replace hx249_0 := (cell_far (p := ⟨gb248, 1, none⟩) (by first | (rw [add_block]; exact hn249_1) | (show (Addr.add _ _).block ≠ _; rw [add_block]; exact hn249_1) | exact hn249_1) (.int .i64 t237)).trans hx249_0; replace hx249_0 := (cell_far (p := ⟨gb248, 2, none⟩) (by first | (rw [add_block]; exact hn249_2) | (show (Addr.add _ _).block ≠ _; rw [add_block]; exact hn249_2) | exact hn249_2) (.int .i64 t238)).trans hx249_0; replace hx249_0 := (cell_far (p := ⟨gb248, 3, none⟩) (by first | (rw [add_block]; exact hn249_3) | (show (Addr.add _ _).block ≠ _; rw [add_block]; exact hn249_3) | exact hn249_3) (.int .i64 t239)).trans hx249_0; replace hx249_0 := (cell_far (p := ⟨gb248, 4, none⟩) (by first | (rw [add_block]; exact hn249_4) | (show (Addr.add _ _).block ≠ _; rw [add_block]; exact hn249_4) | exact hn249_4) (.int .i64 t240)).trans hx249_0; replace hx249_0 := (cell_far (p := ⟨gb248, 5, none⟩) (by first | (rw [add_block]; exact hn249_5) | (show (Addr.add _ _).block ≠ _; rw [add_block]; exact hn249_5) | exact hn249_5) (.int .i64 t241)).trans hx249_0; replace hx249_0 := (cell_far (p := ⟨gb248, 6, none⟩) (by first | (rw [add_block]; exact hn249_6) | (show (Addr.add _ _).block ≠ _; rw [add_block]; exact hn249_6) | exact hn249_6) (.int .i64 t242)).trans hx249_0; replace hx249_0 := (cell_far (p := ⟨gb248, 7, none⟩) (by first | (rw [add_block]; exact hn249_7) | (show (Addr.add _ _).block ≠ _; rw [add_block]; exact hn249_7) | exact hn249_7) (.int .i64 t243)).trans hx249_0; replace hx249_0 := (cell_far (p := ⟨gb248, 8, none⟩) (by first | (rw [add_block]; exact hn249_8) | (show (Addr.add _ _).block ≠ _; rw [add_block]; exact hn249_8) | exact hn249_8) (.slice Ao84 t244.length co84)).trans hx249_0; clear hn249_0; clear hn249_1; clear hn249_2; clear hn249_3; clear hn249_4; clear hn249_5; clear hn249_6; clear hn249_7; clear hn249_8; replace p249 := eq_true p249; replace q249 := eq_true q249) | ((with_reducible refine gate_callee (f := 17) rfl ?_); refine goesL_ (some 126) rfl rfl Try.func17 (by kernel_rfl) rfl #[.string (rdOf ByteArray.empty x3_1 x12_3)] rfl (by (try simp only [List.map_toArray, List.map_cons, List.map_nil]); first | done | rfl | (simp only [List.length_drop, List.length_take]; rfl)) ?_; (with_reducible refine (quillref24_Take.calls k3 (rdOf ByteArray.empty x3_1 x12_3) t250 t251 t252 t253 t254 t255 t256 t257 t258 true _ A73.out).mono ?_); rintro e w85 ⟨v259, rfl, ho0, hb⟩; refine ⟨_, rfl, ?_⟩; have n0_ := Aside0.mk (Kd.R_below (by (with_reducible repeat (first | apply Kd.R_alloc | apply Kd.R_drewN | apply Kd.R_drew)); exact (Kd.R_mono (Kd.R_far (p := ⟨gb248, 8, none⟩) (Kd.R_far (p := ⟨gb248, 7, none⟩) (Kd.R_far (p := ⟨gb248, 6, none⟩) (Kd.R_far (p := ⟨gb248, 5, none⟩) (Kd.R_far (p := ⟨gb248, 4, none⟩) (Kd.R_far (p := ⟨gb248, 3, none⟩) (Kd.R_far (p := ⟨gb248, 2, none⟩) (Kd.R_far (p := ⟨gb248, 1, none⟩) (Kd.R_far (p := ⟨gb248, 0, none⟩) (Kd.R_types HO_3.out BK248.out (by decide)) (fun _ hk => hk.2) (.int .i64 t236)) (fun _ hk => hk.2) (.int .i64 t237)) (fun _ hk => hk.2) (.int .i64 t238)) (fun _ hk => hk.2) (.int .i64 t239)) (fun _ hk => hk.2) (.int .i64 t240)) (fun _ hk => hk.2) (.int .i64 t241)) (fun _ hk => hk.2) (.int .i64 t242)) (fun _ hk => hk.2) (.int .i64 t243)) (fun _ hk => hk.2) (.slice Ao84 t244.length co84)) (fun _ h_ => h_.1))) hb); have n1_ := Aside0.mk (Kd.R_elder' (by (with_reducible repeat (first | apply Kd.R_alloc | apply Kd.R_drewN | apply Kd.R_drew)); exact (Kd.R_mono (Kd.R_far (p := ⟨gb248, 8, none⟩) (Kd.R_far (p := ⟨gb248, 7, none⟩) (Kd.R_far (p := ⟨gb248, 6, none⟩) (Kd.R_far (p := ⟨gb248, 5, none⟩) (Kd.R_far (p := ⟨gb248, 4, none⟩) (Kd.R_far (p := ⟨gb248, 3, none⟩) (Kd.R_far (p := ⟨gb248, 2, none⟩) (Kd.R_far (p := ⟨gb248, 1, none⟩) (Kd.R_far (p := ⟨gb248, 0, none⟩) (Kd.R_types HO246.out BK248.out (by decide)) (fun _ hk => hk.2) (.int .i64 t236)) (fun _ hk => hk.2) (.int .i64 t237)) (fun _ hk => hk.2) (.int .i64 t238)) (fun _ hk => hk.2) (.int .i64 t239)) (fun _ hk => hk.2) (.int .i64 t240)) (fun _ hk => hk.2) (.int .i64 t241)) (fun _ hk => hk.2) (.int .i64 t242)) (fun _ hk => hk.2) (.int .i64 t243)) (fun _ hk => hk.2) (.slice Ao84 t244.length co84)) (fun _ h_ => h_.1))) (Kd.R_base ho0) hb); have n2_ := Aside0.mk (Kd.R_lower (Kd.R_new' ho0 (Kd.R_lt (by (with_reducible repeat (first | apply Kd.R_alloc | apply Kd.R_drewN | apply Kd.R_drew)); exact (Kd.R_mono (Kd.R_far (p := ⟨gb248, 8, none⟩) (Kd.R_far (p := ⟨gb248, 7, none⟩) (Kd.R_far (p := ⟨gb248, 6, none⟩) (Kd.R_far (p := ⟨gb248, 5, none⟩) (Kd.R_far (p := ⟨gb248, 4, none⟩) (Kd.R_far (p := ⟨gb248, 3, none⟩) (Kd.R_far (p := ⟨gb248, 2, none⟩) (Kd.R_far (p := ⟨gb248, 1, none⟩) (Kd.R_far (p := ⟨gb248, 0, none⟩) (Kd.R_types HO246.out BK248.out (by decide)) (fun _ hk => hk.2) (.int .i64 t236)) (fun _ hk => hk.2) (.int .i64 t237)) (fun _ hk => hk.2) (.int .i64 t238)) (fun _ hk => hk.2) (.int .i64 t239)) (fun _ hk => hk.2) (.int .i64 t240)) (fun _ hk => hk.2) (.int .i64 t241)) (fun _ hk => hk.2) (.int .i64 t242)) (fun _ hk => hk.2) (.int .i64 t243)) (fun _ hk => hk.2) (.slice Ao84 t244.length co84)) (fun _ h_ => h_.1))))) (below_size (by repeat (first | (with_reducible first | exact HB.out | apply below_alloc | apply pw_below_drewN | apply below_drew1 | refine below_set ?_ GE193.out | refine below_set ?_ GE248.out) | exact HB.out)))); have n3_ := Aside0.mk (blk_below (g := gb193) (o := .cells #[.slice A0_0 l0_0.length c0_0, .slice A0_1 l0_1.length c0_1] 25 (0, 0)) (by (with_reducible repeat (first | refine blk_drewN ?_ _ | refine blk_drew ?_ | refine blk_alloc ?_ _)); refine blk_far ?_ NB193_248.out _; (with_reducible repeat (first | refine blk_drewN ?_ _ | refine blk_drew ?_ | refine blk_alloc ?_ _)); refine blk_far ?_ NB193_248.out _; (with_reducible repeat (first | refine blk_drewN ?_ _ | refine blk_drew ?_ | refine blk_alloc ?_ _)); refine blk_far ?_ NB193_248.out _; (with_reducible repeat (first | refine blk_drewN ?_ _ | refine blk_drew ?_ | refine blk_alloc ?_ _)); refine blk_far ?_ NB193_248.out _; (with_reducible repeat (first | refine blk_drewN ?_ _ | refine blk_drew ?_ | refine blk_alloc ?_ _)); refine blk_far ?_ NB193_248.out _; (with_reducible repeat (first | refine blk_drewN ?_ _ | refine blk_drew ?_ | refine blk_alloc ?_ _)); refine blk_far ?_ NB193_248.out _; (with_reducible repeat (first | refine blk_drewN ?_ _ | refine blk_drew ?_ | refine blk_alloc ?_ _)); refine blk_far ?_ NB193_248.out _; (with_reducible repeat (first | refine blk_drewN ?_ _ | refine blk_drew ?_ | refine blk_alloc ?_ _)); refine blk_far ?_ NB193_248.out _; (with_reducible repeat (first | refine blk_drewN ?_ _ | refine blk_drew ?_ | refine blk_alloc ?_ _)); refine blk_far ?_ NB193_248.out _; (with_reducible repeat (first | refine blk_drewN ?_ _ | refine blk_drew ?_ | refine blk_alloc ?_ _)); exact BK193.out) hb); have n4_ := Aside0.mk (blk_below (g := gb248) (o := .cells #[.int .i64 t236, .int .i64 t237, .int .i64 t238, .int .i64 t239, .int .i64 t240, .int .i64 t241, .int .i64 t242, .int .i64 t243, .slice Ao84 t244.length co84] 32 (0, 0)) (by (with_reducible repeat (first | refine blk_drewN ?_ _ | refine blk_drew ?_ | refine blk_alloc ?_ _)); refine blk_put (cs := #[.int .i64 t236, .int .i64 t237, .int .i64 t238, .int .i64 t239, .int .i64 t240, .int .i64 t241, .int .i64 t242, .int .i64 t243, .slice none 0 0]) ?_ 8 _ rfl; (with_reducible repeat (first | refine blk_drewN ?_ _ | refine blk_drew ?_ | refine blk_alloc ?_ _)); refine blk_put (cs := #[.int .i64 t236, .int .i64 t237, .int .i64 t238, .int .i64 t239, .int .i64 t240, .int .i64 t241, .int .i64 t242, .int .i64 0, .slice none 0 0]) ?_ 7 _ rfl; (with_reducible repeat (first | refine blk_drewN ?_ _ | refine blk_drew ?_ | refine blk_alloc ?_ _)); refine blk_put (cs := #[.int .i64 t236, .int .i64 t237, .int .i64 t238, .int .i64 t239, .int .i64 t240, .int .i64 t241, .int .i64 0, .int .i64 0, .slice none 0 0]) ?_ 6 _ rfl; (with_reducible repeat (first | refine blk_drewN ?_ _ | refine blk_drew ?_ | refine blk_alloc ?_ _)); refine blk_put (cs := #[.int .i64 t236, .int .i64 t237, .int .i64 t238, .int .i64 t239, .int .i64 t240, .int .i64 0, .int .i64 0, .int .i64 0, .slice none 0 0]) ?_ 5 _ rfl; (with_reducible repeat (first | refine blk_drewN ?_ _ | refine blk_drew ?_ | refine blk_alloc ?_ _)); refine blk_put (cs := #[.int .i64 t236, .int .i64 t237, .int .i64 t238, .int .i64 t239, .int .i64 0, .int .i64 0, .int .i64 0, .int .i64 0, .slice none 0 0]) ?_ 4 _ rfl; (with_reducible repeat (first | refine blk_drewN ?_ _ | refine blk_drew ?_ | refine blk_alloc ?_ _)); refine blk_put (cs := #[.int .i64 t236, .int .i64 t237, .int .i64 t238, .int .i64 0, .int .i64 0, .int .i64 0, .int .i64 0, .int .i64 0, .slice none 0 0]) ?_ 3 _ rfl; (with_reducible repeat (first | refine blk_drewN ?_ _ | refine blk_drew ?_ | refine blk_alloc ?_ _)); refine blk_put (cs := #[.int .i64 t236, .int .i64 t237, .int .i64 0, .int .i64 0, .int .i64 0, .int .i64 0, .int .i64 0, .int .i64 0, .slice none 0 0]) ?_ 2 _ rfl; (with_reducible repeat (first | refine blk_drewN ?_ _ | refine blk_drew ?_ | refine blk_alloc ?_ _)); refine blk_put (cs := #[.int .i64 t236, .int .i64 0, .int .i64 0, .int .i64 0, .int .i64 0, .int .i64 0, .int .i64 0, .int .i64 0, .slice none 0 0]) ?_ 1 _ rfl; (with_reducible repeat (first | refine blk_drewN ?_ _ | refine blk_drew ?_ | refine blk_alloc ?_ _)); refine blk_put (cs := #[.int .i64 0, .int .i64 0, .int .i64 0, .int .i64 0, .int .i64 0, .int .i64 0, .int .i64 0, .int .i64 0, .slice none 0 0]) ?_ 0 _ rfl; (with_reducible repeat (first | refine blk_drewN ?_ _ | refine blk_drew ?_ | refine blk_alloc ?_ _)); exact BK248.out) hb); have n5_ := Aside0.mk (below_step (by repeat (first | (with_reducible first | exact HB.out | apply below_alloc | apply pw_below_drewN | apply below_drew1 | refine below_set ?_ GE193.out | refine below_set ?_ GE248.out) | exact HB.out)) hb); clear HO_3; clear HO246; clear BK193; clear BK248; clear HB; have HO_3 := n0_; have HO246 := n1_; have HO260 := n2_; have BK193 := n3_; have BK248 := n4_; have HB := n5_; clear n0_ n1_ n2_ n3_ n4_ n5_; (try clear hb); (try clear hb2); (try clear hk); (try clear hi); (try clear ho0)) | ((with_reducible refine gate_dst (N := 15) rfl ?_); refine box_event ?hg (N := 15) ?hd (cs := #[.int .i64 0, .int .i64 0, .int .i64 0, .int .i64 0, .int .i64 0, .int .i64 0, .int .i64 0, .int .i64 0, .slice none 0 0]) (t := 32) ?hr ?_; (case hd => rfl); (case hg => rfl); (case hr => first | (go_simp; done) | (go_simp; rfl)); intro gb262 hg w86 hbox hb; have n0_ := Aside0.mk (Kd.R_below (by (with_reducible repeat (first | apply Kd.R_alloc | apply Kd.R_drewN | apply Kd.R_drew)); exact HO_3.out) hb); have n1_ := Aside0.mk (Kd.R_below (by (with_reducible repeat (first | apply Kd.R_alloc | apply Kd.R_drewN | apply Kd.R_drew)); exact HO246.out) hb); have n2_ := Aside0.mk (Kd.R_below (by (with_reducible repeat (first | apply Kd.R_alloc | apply Kd.R_drewN | apply Kd.R_drew)); exact HO260.out) hb); have n3_ := Aside0.mk (blk_below (g := gb193) (o := .cells #[.slice A0_0 l0_0.length c0_0, .slice A0_1 l0_1.length c0_1] 25 (0, 0)) (by (with_reducible repeat (first | refine blk_drewN ?_ _ | refine blk_drew ?_ | refine blk_alloc ?_ _)); exact BK193.out) hb); have n4_ := Aside0.mk (blk_below (g := gb248) (o := .cells #[.int .i64 t236, .int .i64 t237, .int .i64 t238, .int .i64 t239, .int .i64 t240, .int .i64 t241, .int .i64 t242, .int .i64 t243, .slice Ao84 t244.length co84] 32 (0, 0)) (by (with_reducible repeat (first | refine blk_drewN ?_ _ | refine blk_drew ?_ | refine blk_alloc ?_ _)); exact BK248.out) hb); have n5_ := Aside0.mk (below_step (by repeat (first | (with_reducible first | exact HB.out | apply below_alloc | apply pw_below_drewN | apply below_drew1 | refine below_set ?_ GE193.out | refine below_set ?_ GE248.out) | exact HB.out)) hb); have n6_ := Aside0.mk (hbox); have n7_ := Aside0.mk ((by rw [hg]; exact (below_size (by repeat (first | (with_reducible first | exact HB.out | apply below_alloc | apply pw_below_drewN | apply below_drew1 | refine below_set ?_ GE193.out | refine below_set ?_ GE248.out) | exact HB.out))) : w.heap.size ≤ gb262)); have n8_ := Aside0.mk ((by rw [hg]; exact (below_size (by repeat (first | (with_reducible first | exact HB.out | apply below_alloc | apply pw_below_drewN | apply below_drew1 | refine below_set ?_ GE193.out | refine below_set ?_ GE248.out) | exact HB.out))) : w.heap.size ≤ gb262)); have n9_ := Aside0.mk ((by rw [hg]; exact Nat.ne_of_lt (blk_lt (g := gb193) (o := .cells #[.slice A0_0 l0_0.length c0_0, .slice A0_1 l0_1.length c0_1] 25 (0, 0)) (by (with_reducible repeat (first | refine blk_drewN ?_ _ | refine blk_drew ?_ | refine blk_alloc ?_ _)); exact BK193.out)) : gb193 ≠ gb262)); have n10_ := Aside0.mk ((by rw [hg]; exact Nat.ne_of_gt (blk_lt (g := gb193) (o := .cells #[.slice A0_0 l0_0.length c0_0, .slice A0_1 l0_1.length c0_1] 25 (0, 0)) (by (with_reducible repeat (first | refine blk_drewN ?_ _ | refine blk_drew ?_ | refine blk_alloc ?_ _)); exact BK193.out)) : gb262 ≠ gb193)); have n11_ := Aside0.mk ((by rw [hg]; exact Nat.ne_of_lt (blk_lt (g := gb248) (o := .cells #[.int .i64 t236, .int .i64 t237, .int .i64 t238, .int .i64 t239, .int .i64 t240, .int .i64 t241, .int .i64 t242, .int .i64 t243, .slice Ao84 t244.length co84] 32 (0, 0)) (by (with_reducible repeat (first | refine blk_drewN ?_ _ | refine blk_drew ?_ | refine blk_alloc ?_ _)); exact BK248.out)) : gb248 ≠ gb262)); have n12_ := Aside0.mk ((by rw [hg]; exact Nat.ne_of_gt (blk_lt (g := gb248) (o := .cells #[.int .i64 t236, .int .i64 t237, .int .i64 t238, .int .i64 t239, .int .i64 t240, .int .i64 t241, .int .i64 t242, .int .i64 t243, .slice Ao84 t244.length co84] 32 (0, 0)) (by (with_reducible repeat (first | refine blk_drewN ?_ _ | refine blk_drew ?_ | refine blk_alloc ?_ _)); exact BK248.out)) : gb262 ≠ gb248)); clear HO_3; clear HO246; clear HO260; clear BK193; clear BK248; clear HB; have HO_3 := n0_; have HO246 := n1_; have HO260 := n2_; have BK193 := n3_; have BK248 := n4_; have HB := n5_; have BK262 := n6_; have GW262 := n7_; have GE262 := n8_; have NB193_262 := n9_; have NB262_193 := n10_; have NB248_262 := n11_; have NB262_248 := n12_; clear n0_ n1_ n2_ n3_ n4_ n5_ n6_ n7_ n8_ n9_ n10_ n11_ n12_; clear hb hbox hg; have hnb87 := NB262_193.out; have hnc87 := NB193_262.out; have hnb88 := NB262_248.out; have hnc88 := NB248_262.out; have hcz89_0 : w86.cell? ⟨gb262, 0, none⟩ = some (.int .i64 0) := (blk_cell BK262.out 0).trans rfl; have hcz89_1 : w86.cell? ⟨gb262, 1, none⟩ = some (.int .i64 0) := (blk_cell BK262.out 1).trans rfl; have hcz89_2 : w86.cell? ⟨gb262, 2, none⟩ = some (.int .i64 0) := (blk_cell BK262.out 2).trans rfl; have hcz89_3 : w86.cell? ⟨gb262, 3, none⟩ = some (.int .i64 0) := (blk_cell BK262.out 3).trans rfl; have hcz89_4 : w86.cell? ⟨gb262, 4, none⟩ = some (.int .i64 0) := (blk_cell BK262.out 4).trans rfl; have hcz89_5 : w86.cell? ⟨gb262, 5, none⟩ = some (.int .i64 0) := (blk_cell BK262.out 5).trans rfl; have hcz89_6 : w86.cell? ⟨gb262, 6, none⟩ = some (.int .i64 0) := (blk_cell BK262.out 6).trans rfl; have hcz89_7 : w86.cell? ⟨gb262, 7, none⟩ = some (.int .i64 0) := (blk_cell BK262.out 7).trans rfl; have hcz89_8 : w86.cell? ⟨gb262, 8, none⟩ = some (.slice none 0 0) := (blk_cell BK262.out 8).trans rfl; have hfz89_0 := blk_frozen BK262.out 0; have hfz89_1 := blk_frozen BK262.out 1; have hfz89_2 := blk_frozen BK262.out 2; have hfz89_3 := blk_frozen BK262.out 3; have hfz89_4 := blk_frozen BK262.out 4; have hfz89_5 := blk_frozen BK262.out 5; have hfz89_6 := blk_frozen BK262.out 6; have hfz89_7 := blk_frozen BK262.out 7; have hfz89_8 := blk_frozen BK262.out 8; obtain ⟨Ao90, co90, eo90⟩ := Kd.R_slice HO260.out; subst eo90) | ((with_reducible refine gate_callee (f := 14) rfl ?_); refine goesL_ (some 131) rfl rfl Try.func14 (by kernel_rfl) rfl #[.int .i64 t247] rfl (by (try simp only [List.map_toArray, List.map_cons, List.map_nil]); first | done | rfl | (simp only [List.length_drop, List.length_take]; rfl)) ?_; (with_reducible refine (quilllaw25_num.calls t247 t263 _ A74.out).mono ?_); rintro e w' ⟨rfl, ⟨nd, rfl⟩⟩; refine ⟨_, rfl, ?_⟩; have hcz91_0 : w86.cell? ⟨gb248, 0, none⟩ = some (.int .i64 t236) := (blk_cell BK248.out 0).trans rfl; have hcz91_1 : w86.cell? ⟨gb248, 1, none⟩ = some (.int .i64 t237) := (blk_cell BK248.out 1).trans rfl; have hcz91_2 : w86.cell? ⟨gb248, 2, none⟩ = some (.int .i64 t238) := (blk_cell BK248.out 2).trans rfl; have hcz91_3 : w86.cell? ⟨gb248, 3, none⟩ = some (.int .i64 t239) := (blk_cell BK248.out 3).trans rfl; have hcz91_4 : w86.cell? ⟨gb248, 4, none⟩ = some (.int .i64 t240) := (blk_cell BK248.out 4).trans rfl; have hcz91_5 : w86.cell? ⟨gb248, 5, none⟩ = some (.int .i64 t241) := (blk_cell BK248.out 5).trans rfl; have hcz91_6 : w86.cell? ⟨gb248, 6, none⟩ = some (.int .i64 t242) := (blk_cell BK248.out 6).trans rfl; have hcz91_7 : w86.cell? ⟨gb248, 7, none⟩ = some (.int .i64 t243) := (blk_cell BK248.out 7).trans rfl; have hcz91_8 : w86.cell? ⟨gb248, 8, none⟩ = some (.slice Ao84 t244.length co84) := (blk_cell BK248.out 8).trans rfl; have hfz91_0 := blk_frozen BK248.out 0; have hfz91_1 := blk_frozen BK248.out 1; have hfz91_2 := blk_frozen BK248.out 2; have hfz91_3 := blk_frozen BK248.out 3; have hfz91_4 := blk_frozen BK248.out 4; have hfz91_5 := blk_frozen BK248.out 5; have hfz91_6 := blk_frozen BK248.out 6; have hfz91_7 := blk_frozen BK248.out 7; have hfz91_8 := blk_frozen BK248.out 8) | (go_at_call 15; (with_reducible refine (quillref0_EqOp.calls k3 t236 t237 t238 t239 t240 t241 t242 t243 _ _ t244 t250 t251 t252 t253 t254 t255 t256 t257 _ _ t258 true _ ?side1 ?side2 ?side3 ?side4 A77.out).mono ?_); (case side1 => refine (Kd.R_reads' (e := 3) (base := w.heap.size) (ok := fun k_ => (True ∧ some k_ ≠ (.slice Ao90 t258.length co90 : Value).ownBlock)) (n := t244.length) (c := co84) ?_).2.2; exact (by (with_reducible repeat (first | apply Kd.R_alloc | apply Kd.R_drewN | apply Kd.R_drew)); exact (Kd.R_mono (Kd.R_far (p := ⟨gb262, 8, none⟩) (Kd.R_far (p := ⟨gb262, 7, none⟩) (Kd.R_far (p := ⟨gb262, 6, none⟩) (Kd.R_far (p := ⟨gb262, 5, none⟩) (Kd.R_far (p := ⟨gb262, 4, none⟩) (Kd.R_far (p := ⟨gb262, 3, none⟩) (Kd.R_far (p := ⟨gb262, 2, none⟩) (Kd.R_far (p := ⟨gb262, 1, none⟩) (Kd.R_far (p := ⟨gb262, 0, none⟩) (Kd.R_types HO246.out BK262.out (by decide)) (fun _ hk => hk.2) (.int .i64 t250)) (fun _ hk => hk.2) (.int .i64 t251)) (fun _ hk => hk.2) (.int .i64 t252)) (fun _ hk => hk.2) (.int .i64 t253)) (fun _ hk => hk.2) (.int .i64 t254)) (fun _ hk => hk.2) (.int .i64 t255)) (fun _ hk => hk.2) (.int .i64 t256)) (fun _ hk => hk.2) (.int .i64 t257)) (fun _ hk => hk.2) (.slice Ao90 t258.length co90)) (fun _ h_ => h_.1)))); (case side2 => exact (Kd.R_reads' HO246.out).2.1); (case side3 => refine (Kd.R_reads' (e := 3) (base := w.heap.size) (ok := fun k_ => (True ∧ some k_ ≠ (.slice Ao84 t244.length co84 : Value).ownBlock)) (n := t258.length) (c := co90) ?_).2.2; exact (by (with_reducible repeat (first | apply Kd.R_alloc | apply Kd.R_drewN | apply Kd.R_drew)); exact (Kd.R_mono (Kd.R_far (p := ⟨gb262, 8, none⟩) (Kd.R_far (p := ⟨gb262, 7, none⟩) (Kd.R_far (p := ⟨gb262, 6, none⟩) (Kd.R_far (p := ⟨gb262, 5, none⟩) (Kd.R_far (p := ⟨gb262, 4, none⟩) (Kd.R_far (p := ⟨gb262, 3, none⟩) (Kd.R_far (p := ⟨gb262, 2, none⟩) (Kd.R_far (p := ⟨gb262, 1, none⟩) (Kd.R_far (p := ⟨gb262, 0, none⟩) (Kd.R_types HO260.out BK262.out (by decide)) (fun _ hk => hk.2) (.int .i64 t250)) (fun _ hk => hk.2) (.int .i64 t251)) (fun _ hk => hk.2) (.int .i64 t252)) (fun _ hk => hk.2) (.int .i64 t253)) (fun _ hk => hk.2) (.int .i64 t254)) (fun _ hk => hk.2) (.int .i64 t255)) (fun _ hk => hk.2) (.int .i64 t256)) (fun _ hk => hk.2) (.int .i64 t257)) (fun _ hk => hk.2) (.slice Ao90 t258.length co90)) (fun _ h_ => h_.1)))); (case side4 => exact (Kd.R_reads' HO260.out).2.1); rintro e w92 ⟨rfl, hb⟩; have n0_ := Aside0.mk (Kd.R_below (by (with_reducible repeat (first | apply Kd.R_alloc | apply Kd.R_drewN | apply Kd.R_drew)); exact (Kd.R_mono (Kd.R_far (p := ⟨gb262, 8, none⟩) (Kd.R_far (p := ⟨gb262, 7, none⟩) (Kd.R_far (p := ⟨gb262, 6, none⟩) (Kd.R_far (p := ⟨gb262, 5, none⟩) (Kd.R_far (p := ⟨gb262, 4, none⟩) (Kd.R_far (p := ⟨gb262, 3, none⟩) (Kd.R_far (p := ⟨gb262, 2, none⟩) (Kd.R_far (p := ⟨gb262, 1, none⟩) (Kd.R_far (p := ⟨gb262, 0, none⟩) (Kd.R_types HO_3.out BK262.out (by decide)) (fun _ hk => hk.2) (.int .i64 t250)) (fun _ hk => hk.2) (.int .i64 t251)) (fun _ hk => hk.2) (.int .i64 t252)) (fun _ hk => hk.2) (.int .i64 t253)) (fun _ hk => hk.2) (.int .i64 t254)) (fun _ hk => hk.2) (.int .i64 t255)) (fun _ hk => hk.2) (.int .i64 t256)) (fun _ hk => hk.2) (.int .i64 t257)) (fun _ hk => hk.2) (.slice Ao90 t258.length co90)) (fun _ h_ => h_.1))) hb); have n1_ := Aside0.mk (Kd.R_below (by (with_reducible repeat (first | apply Kd.R_alloc | apply Kd.R_drewN | apply Kd.R_drew)); exact (Kd.R_mono (Kd.R_far (p := ⟨gb262, 8, none⟩) (Kd.R_far (p := ⟨gb262, 7, none⟩) (Kd.R_far (p := ⟨gb262, 6, none⟩) (Kd.R_far (p := ⟨gb262, 5, none⟩) (Kd.R_far (p := ⟨gb262, 4, none⟩) (Kd.R_far (p := ⟨gb262, 3, none⟩) (Kd.R_far (p := ⟨gb262, 2, none⟩) (Kd.R_far (p := ⟨gb262, 1, none⟩) (Kd.R_far (p := ⟨gb262, 0, none⟩) (Kd.R_types HO246.out BK262.out (by decide)) (fun _ hk => hk.2) (.int .i64 t250)) (fun _ hk => hk.2) (.int .i64 t251)) (fun _ hk => hk.2) (.int .i64 t252)) (fun _ hk => hk.2) (.int .i64 t253)) (fun _ hk => hk.2) (.int .i64 t254)) (fun _ hk => hk.2) (.int .i64 t255)) (fun _ hk => hk.2) (.int .i64 t256)) (fun _ hk => hk.2) (.int .i64 t257)) (fun _ hk => hk.2) (.slice Ao90 t258.length co90)) (fun _ h_ => h_.1))) hb); have n2_ := Aside0.mk (Kd.R_below (by (with_reducible repeat (first | apply Kd.R_alloc | apply Kd.R_drewN | apply Kd.R_drew)); exact (Kd.R_mono (Kd.R_far (p := ⟨gb262, 8, none⟩) (Kd.R_far (p := ⟨gb262, 7, none⟩) (Kd.R_far (p := ⟨gb262, 6, none⟩) (Kd.R_far (p := ⟨gb262, 5, none⟩) (Kd.R_far (p := ⟨gb262, 4, none⟩) (Kd.R_far (p := ⟨gb262, 3, none⟩) (Kd.R_far (p := ⟨gb262, 2, none⟩) (Kd.R_far (p := ⟨gb262, 1, none⟩) (Kd.R_far (p := ⟨gb262, 0, none⟩) (Kd.R_types HO260.out BK262.out (by decide)) (fun _ hk => hk.2) (.int .i64 t250)) (fun _ hk => hk.2) (.int .i64 t251)) (fun _ hk => hk.2) (.int .i64 t252)) (fun _ hk => hk.2) (.int .i64 t253)) (fun _ hk => hk.2) (.int .i64 t254)) (fun _ hk => hk.2) (.int .i64 t255)) (fun _ hk => hk.2) (.int .i64 t256)) (fun _ hk => hk.2) (.int .i64 t257)) (fun _ hk => hk.2) (.slice Ao90 t258.length co90)) (fun _ h_ => h_.1))) hb); have n3_ := Aside0.mk (blk_below (g := gb193) (o := .cells #[.slice A0_0 l0_0.length c0_0, .slice A0_1 l0_1.length c0_1] 25 (0, 0)) (by (with_reducible repeat (first | refine blk_drewN ?_ _ | refine blk_drew ?_ | refine blk_alloc ?_ _)); refine blk_far ?_ NB193_262.out _; (with_reducible repeat (first | refine blk_drewN ?_ _ | refine blk_drew ?_ | refine blk_alloc ?_ _)); refine blk_far ?_ NB193_262.out _; (with_reducible repeat (first | refine blk_drewN ?_ _ | refine blk_drew ?_ | refine blk_alloc ?_ _)); refine blk_far ?_ NB193_262.out _; (with_reducible repeat (first | refine blk_drewN ?_ _ | refine blk_drew ?_ | refine blk_alloc ?_ _)); refine blk_far ?_ NB193_262.out _; (with_reducible repeat (first | refine blk_drewN ?_ _ | refine blk_drew ?_ | refine blk_alloc ?_ _)); refine blk_far ?_ NB193_262.out _; (with_reducible repeat (first | refine blk_drewN ?_ _ | refine blk_drew ?_ | refine blk_alloc ?_ _)); refine blk_far ?_ NB193_262.out _; (with_reducible repeat (first | refine blk_drewN ?_ _ | refine blk_drew ?_ | refine blk_alloc ?_ _)); refine blk_far ?_ NB193_262.out _; (with_reducible repeat (first | refine blk_drewN ?_ _ | refine blk_drew ?_ | refine blk_alloc ?_ _)); refine blk_far ?_ NB193_262.out _; (with_reducible repeat (first | refine blk_drewN ?_ _ | refine blk_drew ?_ | refine blk_alloc ?_ _)); refine blk_far ?_ NB193_262.out _; (with_reducible repeat (first | refine blk_drewN ?_ _ | refine blk_drew ?_ | refine blk_alloc ?_ _)); exact BK193.out) hb); have n4_ := Aside0.mk (blk_below (g := gb248) (o := .cells #[.int .i64 t236, .int .i64 t237, .int .i64 t238, .int .i64 t239, .int .i64 t240, .int .i64 t241, .int .i64 t242, .int .i64 t243, .slice Ao84 t244.length co84] 32 (0, 0)) (by (with_reducible repeat (first | refine blk_drewN ?_ _ | refine blk_drew ?_ | refine blk_alloc ?_ _)); refine blk_far ?_ NB248_262.out _; (with_reducible repeat (first | refine blk_drewN ?_ _ | refine blk_drew ?_ | refine blk_alloc ?_ _)); refine blk_far ?_ NB248_262.out _; (with_reducible repeat (first | refine blk_drewN ?_ _ | refine blk_drew ?_ | refine blk_alloc ?_ _)); refine blk_far ?_ NB248_262.out _; (with_reducible repeat (first | refine blk_drewN ?_ _ | refine blk_drew ?_ | refine blk_alloc ?_ _)); refine blk_far ?_ NB248_262.out _; (with_reducible repeat (first | refine blk_drewN ?_ _ | refine blk_drew ?_ | refine blk_alloc ?_ _)); refine blk_far ?_ NB248_262.out _; (with_reducible repeat (first | refine blk_drewN ?_ _ | refine blk_drew ?_ | refine blk_alloc ?_ _)); refine blk_far ?_ NB248_262.out _; (with_reducible repeat (first | refine blk_drewN ?_ _ | refine blk_drew ?_ | refine blk_alloc ?_ _)); refine blk_far ?_ NB248_262.out _; (with_reducible repeat (first | refine blk_drewN ?_ _ | refine blk_drew ?_ | refine blk_alloc ?_ _)); refine blk_far ?_ NB248_262.out _; (with_reducible repeat (first | refine blk_drewN ?_ _ | refine blk_drew ?_ | refine blk_alloc ?_ _)); refine blk_far ?_ NB248_262.out _; (with_reducible repeat (first | refine blk_drewN ?_ _ | refine blk_drew ?_ | refine blk_alloc ?_ _)); exact BK248.out) hb); have n5_ := Aside0.mk (blk_below (g := gb262) (o := .cells #[.int .i64 t250, .int .i64 t251, .int .i64 t252, .int .i64 t253, .int .i64 t254, .int .i64 t255, .int .i64 t256, .int .i64 t257, .slice Ao90 t258.length co90] 32 (0, 0)) (by (with_reducible repeat (first | refine blk_drewN ?_ _ | refine blk_drew ?_ | refine blk_alloc ?_ _)); refine blk_put (cs := #[.int .i64 t250, .int .i64 t251, .int .i64 t252, .int .i64 t253, .int .i64 t254, .int .i64 t255, .int .i64 t256, .int .i64 t257, .slice none 0 0]) ?_ 8 _ rfl; (with_reducible repeat (first | refine blk_drewN ?_ _ | refine blk_drew ?_ | refine blk_alloc ?_ _)); refine blk_put (cs := #[.int .i64 t250, .int .i64 t251, .int .i64 t252, .int .i64 t253, .int .i64 t254, .int .i64 t255, .int .i64 t256, .int .i64 0, .slice none 0 0]) ?_ 7 _ rfl; (with_reducible repeat (first | refine blk_drewN ?_ _ | refine blk_drew ?_ | refine blk_alloc ?_ _)); refine blk_put (cs := #[.int .i64 t250, .int .i64 t251, .int .i64 t252, .int .i64 t253, .int .i64 t254, .int .i64 t255, .int .i64 0, .int .i64 0, .slice none 0 0]) ?_ 6 _ rfl; (with_reducible repeat (first | refine blk_drewN ?_ _ | refine blk_drew ?_ | refine blk_alloc ?_ _)); refine blk_put (cs := #[.int .i64 t250, .int .i64 t251, .int .i64 t252, .int .i64 t253, .int .i64 t254, .int .i64 0, .int .i64 0, .int .i64 0, .slice none 0 0]) ?_ 5 _ rfl; (with_reducible repeat (first | refine blk_drewN ?_ _ | refine blk_drew ?_ | refine blk_alloc ?_ _)); refine blk_put (cs := #[.int .i64 t250, .int .i64 t251, .int .i64 t252, .int .i64 t253, .int .i64 0, .int .i64 0, .int .i64 0, .int .i64 0, .slice none 0 0]) ?_ 4 _ rfl; (with_reducible repeat (first | refine blk_drewN ?_ _ | refine blk_drew ?_ | refine blk_alloc ?_ _)); refine blk_put (cs := #[.int .i64 t250, .int .i64 t251, .int .i64 t252, .int .i64 0, .int .i64 0, .int .i64 0, .int .i64 0, .int .i64 0, .slice none 0 0]) ?_ 3 _ rfl; (with_reducible repeat (first | refine blk_drewN ?_ _ | refine blk_drew ?_ | refine blk_alloc ?_ _)); refine blk_put (cs := #[.int .i64 t250, .int .i64 t251, .int .i64 0, .int .i64 0, .int .i64 0, .int .i64 0, .int .i64 0, .int .i64 0, .slice none 0 0]) ?_ 2 _ rfl; (with_reducible repeat (first | refine blk_drewN ?_ _ | refine blk_drew ?_ | refine blk_alloc ?_ _)); refine blk_put (cs := #[.int .i64 t250, .int .i64 0, .int .i64 0, .int .i64 0, .int .i64 0, .int .i64 0, .int .i64 0, .int .i64 0, .slice none 0 0]) ?_ 1 _ rfl; (with_reducible repeat (first | refine blk_drewN ?_ _ | refine blk_drew ?_ | refine blk_alloc ?_ _)); refine blk_put (cs := #[.int .i64 0, .int .i64 0, .int .i64 0, .int .i64 0, .int .i64 0, .int .i64 0, .int .i64 0, .int .i64 0, .slice none 0 0]) ?_ 0 _ rfl; (with_reducible repeat (first | refine blk_drewN ?_ _ | refine blk_drew ?_ | refine blk_alloc ?_ _)); exact BK262.out) hb); have n6_ := Aside0.mk (below_step (by repeat (first | (with_reducible first | exact HB.out | apply below_alloc | apply pw_below_drewN | apply below_drew1 | refine below_set ?_ GE193.out | refine below_set ?_ GE248.out | refine below_set ?_ GE262.out) | exact HB.out)) hb); clear HO_3; clear HO246; clear HO260; clear BK193; clear BK248; clear BK262; clear HB; have HO_3 := n0_; have HO246 := n1_; have HO260 := n2_; have BK193 := n3_; have BK248 := n4_; have BK262 := n5_; have HB := n6_; clear n0_ n1_ n2_ n3_ n4_ n5_ n6_; (try clear hb); (try clear hb2); (try clear hk); (try clear hi)))
              go_roundg k3
              case measure => have := HK1.out; have := HJ12.out; have := HK3.out; omega
              case rel => exact ⟨(wrap64 (x12_3 + 1)), (by first | rfl | (simp; done) | (simp [*]; done)), H', ⟨by have := HK1.out; have := HJ12.out; have := HK3.out; omega⟩, ⟨by (with_reducible repeat (first | apply Kd.R_alloc | apply Kd.R_drewN | apply Kd.R_drew)); exact HO_3.out⟩, ⟨by (with_reducible repeat (first | refine blk_drewN ?_ _ | refine blk_drew ?_ | refine blk_alloc ?_ _)); exact BK193.out⟩, ⟨by repeat (first | (with_reducible first | exact HB.out | apply below_alloc | apply pw_below_drewN | apply below_drew1 | refine below_set ?_ GE193.out | refine below_set ?_ GE248.out | refine below_set ?_ GE262.out) | exact HB.out)⟩⟩
             ·
              replace c78 := Bool.eq_false_iff.mpr c78
              subst c78
              have H1 : (some false) = some r := by rw [if_neg (show ¬ (false = true) by decide)] at H; exact H
              clear H
              have H := H1
              clear H1
              exact absurd (H.trans (congrArg some HRT.out)) (by decide)
            ·
             replace c76 := Bool.eq_false_iff.mpr c76
             subst c76
             have H1 : ((quilllaw25_num.f t247).bind fun t265 => (if t265 = 9 then ((quillref0_EqOp.f k3 t236 t237 t238 t239 t240 t241 t242 t243 t244 t250 t251 t252 t253 t254 t255 t256 t257 t258).bind fun t266 => (if t266 = true then (quilllaw25_CodecBytes.l2 k3 x3_1 (wrap64 (x12_3 + 1))) else (some false))) else (some false))) = some r := by rw [if_neg (show ¬ (false = true) by decide)] at H; exact H
             clear H
             have H := H1
             clear H1
             replace H := Option.bind_eq_some_iff.mp H
             obtain ⟨t265, A930, H⟩ := H
             replace H : (if t265 = 9 then ((quillref0_EqOp.f k3 t236 t237 t238 t239 t240 t241 t242 t243 t244 t250 t251 t252 t253 t254 t255 t256 t257 t258).bind fun t266 => (if t266 = true then (quilllaw25_CodecBytes.l2 k3 x3_1 (wrap64 (x12_3 + 1))) else (some false))) else (some false)) = some r := H
             have A93 := Aside0.mk A930
             clear A930
             by_cases c94 : t265 = 9
             ·
              rw [if_pos c94] at H
              have c94b0 : (t265 == 9) = true := beq_iff_eq.mpr c94
              have c94b1 : (t265 != 9) = false := bne_eq_false_iff_eq.mpr c94
              clear c94
              replace H := Option.bind_eq_some_iff.mp H
              obtain ⟨t266, A950, H⟩ := H
              replace H : (if t266 = true then (quilllaw25_CodecBytes.l2 k3 x3_1 (wrap64 (x12_3 + 1))) else (some false)) = some r := H
              have A95 := Aside0.mk A950
              clear A950
              by_cases c96 : t266 = true
              ·
               subst c96
               have H1 : (quilllaw25_CodecBytes.l2 k3 x3_1 (wrap64 (x12_3 + 1))) = some r := by rw [if_pos rfl] at H; exact H
               clear H
               have H := H1
               clear H1
               have H' := Aside0.mk H
               clear H
               obtain ⟨Ao97, co97, eo97⟩ := Kd.R_slice HO_3.out
               subst eo97
               have p235 : 0 ≤ (x12_3 : Int) := of_decide_eq_true (by first | (with_reducible assumption) | assumption)
               have q235 : x12_3 < (x3_1.length : Int) := of_decide_eq_true (by first | (with_reducible assumption) | assumption)
               obtain ⟨ad235, e235, hx235_0⟩ := Kd.at_string (Kd.R_reads' HO_3.out).2.2 x12_3 p235 q235
               cases e235
               replace p235 := eq_true p235
               replace q235 := eq_true q235
               go_wp2_with (first | ((with_reducible refine gate_callee (f := 16) rfl ?_); refine goesL_ (some 118) rfl rfl Try.func16 (by kernel_rfl) rfl #[.string (rdOf ByteArray.empty x3_1 x12_3)] rfl (by (try simp only [List.map_toArray, List.map_cons, List.map_nil]); first | done | rfl | (simp only [List.length_drop, List.length_take]; rfl)) ?_; (with_reducible refine (codec_Take.calls (rdOf ByteArray.empty x3_1 x12_3) t236 t237 t238 t239 t240 t241 t242 t243 t244 t247 _ A72.out).mono ?_); rintro e w98 ⟨v245, rfl, ho0, hb⟩; refine ⟨_, rfl, ?_⟩; have n0_ := Aside0.mk (Kd.R_below (by (with_reducible repeat (first | apply Kd.R_alloc | apply Kd.R_drewN | apply Kd.R_drew)); exact HO_3.out) hb); have n1_ := Aside0.mk (Kd.R_lower ho0 (below_size (by repeat (first | (with_reducible first | exact HB.out | apply below_alloc | apply pw_below_drewN | apply below_drew1 | refine below_set ?_ GE193.out) | exact HB.out)))); have n2_ := Aside0.mk (blk_below (g := gb193) (o := .cells #[.slice A0_0 l0_0.length c0_0, .slice A0_1 l0_1.length c0_1] 25 (0, 0)) (by (with_reducible repeat (first | refine blk_drewN ?_ _ | refine blk_drew ?_ | refine blk_alloc ?_ _)); exact BK193.out) hb); have n3_ := Aside0.mk (below_step (by repeat (first | (with_reducible first | exact HB.out | apply below_alloc | apply pw_below_drewN | apply below_drew1 | refine below_set ?_ GE193.out) | exact HB.out)) hb); clear HO_3; clear BK193; clear HB; have HO_3 := n0_; have HO246 := n1_; have BK193 := n2_; have HB := n3_; clear n0_ n1_ n2_ n3_; (try clear hb); (try clear hb2); (try clear hk); (try clear hi); (try clear ho0)) | ((with_reducible refine gate_dst (N := 13) rfl ?_); refine box_event ?hg (N := 13) ?hd (cs := #[.int .i64 0, .int .i64 0, .int .i64 0, .int .i64 0, .int .i64 0, .int .i64 0, .int .i64 0, .int .i64 0, .slice none 0 0]) (t := 32) ?hr ?_; (case hd => rfl); (case hg => rfl); (case hr => first | (go_simp; done) | (go_simp; rfl)); intro gb248 hg w99 hbox hb; have n0_ := Aside0.mk (Kd.R_below (by (with_reducible repeat (first | apply Kd.R_alloc | apply Kd.R_drewN | apply Kd.R_drew)); exact HO_3.out) hb); have n1_ := Aside0.mk (Kd.R_below (by (with_reducible repeat (first | apply Kd.R_alloc | apply Kd.R_drewN | apply Kd.R_drew)); exact HO246.out) hb); have n2_ := Aside0.mk (blk_below (g := gb193) (o := .cells #[.slice A0_0 l0_0.length c0_0, .slice A0_1 l0_1.length c0_1] 25 (0, 0)) (by (with_reducible repeat (first | refine blk_drewN ?_ _ | refine blk_drew ?_ | refine blk_alloc ?_ _)); exact BK193.out) hb); have n3_ := Aside0.mk (below_step (by repeat (first | (with_reducible first | exact HB.out | apply below_alloc | apply pw_below_drewN | apply below_drew1 | refine below_set ?_ GE193.out) | exact HB.out)) hb); have n4_ := Aside0.mk (hbox); have n5_ := Aside0.mk ((by rw [hg]; exact (below_size (by repeat (first | (with_reducible first | exact HB.out | apply below_alloc | apply pw_below_drewN | apply below_drew1 | refine below_set ?_ GE193.out) | exact HB.out))) : w.heap.size ≤ gb248)); have n6_ := Aside0.mk ((by rw [hg]; exact (below_size (by repeat (first | (with_reducible first | exact HB.out | apply below_alloc | apply pw_below_drewN | apply below_drew1 | refine below_set ?_ GE193.out) | exact HB.out))) : w.heap.size ≤ gb248)); have n7_ := Aside0.mk ((by rw [hg]; exact Nat.ne_of_lt (blk_lt (g := gb193) (o := .cells #[.slice A0_0 l0_0.length c0_0, .slice A0_1 l0_1.length c0_1] 25 (0, 0)) (by (with_reducible repeat (first | refine blk_drewN ?_ _ | refine blk_drew ?_ | refine blk_alloc ?_ _)); exact BK193.out)) : gb193 ≠ gb248)); have n8_ := Aside0.mk ((by rw [hg]; exact Nat.ne_of_gt (blk_lt (g := gb193) (o := .cells #[.slice A0_0 l0_0.length c0_0, .slice A0_1 l0_1.length c0_1] 25 (0, 0)) (by (with_reducible repeat (first | refine blk_drewN ?_ _ | refine blk_drew ?_ | refine blk_alloc ?_ _)); exact BK193.out)) : gb248 ≠ gb193)); clear HO_3; clear HO246; clear BK193; clear HB; have HO_3 := n0_; have HO246 := n1_; have BK193 := n2_; have HB := n3_; have BK248 := n4_; have GW248 := n5_; have GE248 := n6_; have NB193_248 := n7_; have NB248_193 := n8_; clear n0_ n1_ n2_ n3_ n4_ n5_ n6_ n7_ n8_; clear hb hbox hg; have hnb100 := NB248_193.out; have hnc100 := NB193_248.out; have hcz101_0 : w99.cell? ⟨gb248, 0, none⟩ = some (.int .i64 0) := (blk_cell BK248.out 0).trans rfl; have hcz101_1 : w99.cell? ⟨gb248, 1, none⟩ = some (.int .i64 0) := (blk_cell BK248.out 1).trans rfl; have hcz101_2 : w99.cell? ⟨gb248, 2, none⟩ = some (.int .i64 0) := (blk_cell BK248.out 2).trans rfl; have hcz101_3 : w99.cell? ⟨gb248, 3, none⟩ = some (.int .i64 0) := (blk_cell BK248.out 3).trans rfl; have hcz101_4 : w99.cell? ⟨gb248, 4, none⟩ = some (.int .i64 0) := (blk_cell BK248.out 4).trans rfl; have hcz101_5 : w99.cell? ⟨gb248, 5, none⟩ = some (.int .i64 0) := (blk_cell BK248.out 5).trans rfl; have hcz101_6 : w99.cell? ⟨gb248, 6, none⟩ = some (.int .i64 0) := (blk_cell BK248.out 6).trans rfl; have hcz101_7 : w99.cell? ⟨gb248, 7, none⟩ = some (.int .i64 0) := (blk_cell BK248.out 7).trans rfl; have hcz101_8 : w99.cell? ⟨gb248, 8, none⟩ = some (.slice none 0 0) := (blk_cell BK248.out 8).trans rfl; have hfz101_0 := blk_frozen BK248.out 0; have hfz101_1 := blk_frozen BK248.out 1; have hfz101_2 := blk_frozen BK248.out 2; have hfz101_3 := blk_frozen BK248.out 3; have hfz101_4 := blk_frozen BK248.out 4; have hfz101_5 := blk_frozen BK248.out 5; have hfz101_6 := blk_frozen BK248.out 6; have hfz101_7 := blk_frozen BK248.out 7; have hfz101_8 := blk_frozen BK248.out 8; obtain ⟨Ao102, co102, eo102⟩ := Kd.R_slice HO246.out; subst eo102; have p249 : 0 ≤ (x12_3 : Int) := of_decide_eq_true (by first | (with_reducible assumption) | assumption); have q249 : x12_3 < (x3_1.length : Int) := of_decide_eq_true (by first | (with_reducible assumption) | assumption); obtain ⟨ad249, e249, hx249_0⟩ := Kd.at_string (Kd.R_reads' HO_3.out).2.2 x12_3 p249 q249; obtain rfl : ad235 = ad249 := (by injection e249); have hn249_0 : ad235.block ≠ gb248 := Kd.own_blk (Kd.R_ne HO_3.out BK248.out (by decide)); have hn249_1 : ad235.block ≠ gb248 := Kd.own_blk (Kd.R_ne HO_3.out BK248.out (by decide)); have hn249_2 : ad235.block ≠ gb248 := Kd.own_blk (Kd.R_ne HO_3.out BK248.out (by decide)); have hn249_3 : ad235.block ≠ gb248 := Kd.own_blk (Kd.R_ne HO_3.out BK248.out (by decide)); have hn249_4 : ad235.block ≠ gb248 := Kd.own_blk (Kd.R_ne HO_3.out BK248.out (by decide)); have hn249_5 : ad235.block ≠ gb248 := Kd.own_blk (Kd.R_ne HO_3.out BK248.out (by decide)); have hn249_6 : ad235.block ≠ gb248 := Kd.own_blk (Kd.R_ne HO_3.out BK248.out (by decide)); have hn249_7 : ad235.block ≠ gb248 := Kd.own_blk (Kd.R_ne HO_3.out BK248.out (by decide)); have hn249_8 : ad235.block ≠ gb248 := Kd.own_blk (Kd.R_ne HO_3.out BK248.out (by decide)); replace hx249_0 := (cell_far (p := ⟨gb248, 0, none⟩) (by first | (rw [add_block]; exact hn249_0) | (show (Addr.add _ _).block ≠ _; rw [add_block]; exact hn249_0) | exact hn249_0) (.int .i64 t236)).trans hx249_0; replace hx249_0 := (cell_far (p := ⟨gb248, 1, none⟩) (by first | (rw [add_block]; exact hn249_1) | (show (Addr.add _ _).block ≠ _; rw [add_block]; exact hn249_1) | exact hn249_1) (.int .i64 t237)).trans hx249_0; replace hx249_0 := (cell_far (p := ⟨gb248, 2, none⟩) (by first | (rw [add_block]; exact hn249_2) | (show (Addr.add _ _).block ≠ _; rw [add_block]; exact hn249_2) | exact hn249_2) (.int .i64 t238)).trans hx249_0; replace hx249_0 := (cell_far (p := ⟨gb248, 3, none⟩) (by first | (rw [add_block]; exact hn249_3) | (show (Addr.add _ _).block ≠ _; rw [add_block]; exact hn249_3) | exact hn249_3) (.int .i64 t239)).trans hx249_0; replace hx249_0 := (cell_far (p := ⟨gb248, 4, none⟩) (by first | (rw [add_block]; exact hn249_4) | (show (Addr.add _ _).block ≠ _; rw [add_block]; exact hn249_4) | exact hn249_4) (.int .i64 t240)).trans hx249_0; replace hx249_0 := (cell_far (p := ⟨gb248, 5, none⟩) (by first | (rw [add_block]; exact hn249_5) | (show (Addr.add _ _).block ≠ _; rw [add_block]; exact hn249_5) | exact hn249_5) (.int .i64 t241)).trans hx249_0; replace hx249_0 := (cell_far (p := ⟨gb248, 6, none⟩) (by first | (rw [add_block]; exact hn249_6) | (show (Addr.add _ _).block ≠ _; rw [add_block]; exact hn249_6) | exact hn249_6) (.int .i64 t242)).trans hx249_0; replace hx249_0 := (cell_far (p := ⟨gb248, 7, none⟩) (by first | (rw [add_block]; exact hn249_7) | (show (Addr.add _ _).block ≠ _; rw [add_block]; exact hn249_7) | exact hn249_7) (.int .i64 t243)).trans hx249_0; replace hx249_0 := (cell_far (p := ⟨gb248, 8, none⟩) (by first | (rw [add_block]; exact hn249_8) | (show (Addr.add _ _).block ≠ _; rw [add_block]; exact hn249_8) | exact hn249_8) (.slice Ao102 t244.length co102)).trans hx249_0; clear hn249_0; clear hn249_1; clear hn249_2; clear hn249_3; clear hn249_4; clear hn249_5; clear hn249_6; clear hn249_7; clear hn249_8; replace p249 := eq_true p249; replace q249 := eq_true q249) | ((with_reducible refine gate_callee (f := 17) rfl ?_); refine goesL_ (some 126) rfl rfl Try.func17 (by kernel_rfl) rfl #[.string (rdOf ByteArray.empty x3_1 x12_3)] rfl (by (try simp only [List.map_toArray, List.map_cons, List.map_nil]); first | done | rfl | (simp only [List.length_drop, List.length_take]; rfl)) ?_; (with_reducible refine (quillref24_Take.calls k3 (rdOf ByteArray.empty x3_1 x12_3) t250 t251 t252 t253 t254 t255 t256 t257 t258 false _ A73.out).mono ?_); rintro e w103 ⟨v259, rfl, ho0, hb⟩; refine ⟨_, rfl, ?_⟩; have n0_ := Aside0.mk (Kd.R_below (by (with_reducible repeat (first | apply Kd.R_alloc | apply Kd.R_drewN | apply Kd.R_drew)); exact (Kd.R_mono (Kd.R_far (p := ⟨gb248, 8, none⟩) (Kd.R_far (p := ⟨gb248, 7, none⟩) (Kd.R_far (p := ⟨gb248, 6, none⟩) (Kd.R_far (p := ⟨gb248, 5, none⟩) (Kd.R_far (p := ⟨gb248, 4, none⟩) (Kd.R_far (p := ⟨gb248, 3, none⟩) (Kd.R_far (p := ⟨gb248, 2, none⟩) (Kd.R_far (p := ⟨gb248, 1, none⟩) (Kd.R_far (p := ⟨gb248, 0, none⟩) (Kd.R_types HO_3.out BK248.out (by decide)) (fun _ hk => hk.2) (.int .i64 t236)) (fun _ hk => hk.2) (.int .i64 t237)) (fun _ hk => hk.2) (.int .i64 t238)) (fun _ hk => hk.2) (.int .i64 t239)) (fun _ hk => hk.2) (.int .i64 t240)) (fun _ hk => hk.2) (.int .i64 t241)) (fun _ hk => hk.2) (.int .i64 t242)) (fun _ hk => hk.2) (.int .i64 t243)) (fun _ hk => hk.2) (.slice Ao102 t244.length co102)) (fun _ h_ => h_.1))) hb); have n1_ := Aside0.mk (Kd.R_elder' (by (with_reducible repeat (first | apply Kd.R_alloc | apply Kd.R_drewN | apply Kd.R_drew)); exact (Kd.R_mono (Kd.R_far (p := ⟨gb248, 8, none⟩) (Kd.R_far (p := ⟨gb248, 7, none⟩) (Kd.R_far (p := ⟨gb248, 6, none⟩) (Kd.R_far (p := ⟨gb248, 5, none⟩) (Kd.R_far (p := ⟨gb248, 4, none⟩) (Kd.R_far (p := ⟨gb248, 3, none⟩) (Kd.R_far (p := ⟨gb248, 2, none⟩) (Kd.R_far (p := ⟨gb248, 1, none⟩) (Kd.R_far (p := ⟨gb248, 0, none⟩) (Kd.R_types HO246.out BK248.out (by decide)) (fun _ hk => hk.2) (.int .i64 t236)) (fun _ hk => hk.2) (.int .i64 t237)) (fun _ hk => hk.2) (.int .i64 t238)) (fun _ hk => hk.2) (.int .i64 t239)) (fun _ hk => hk.2) (.int .i64 t240)) (fun _ hk => hk.2) (.int .i64 t241)) (fun _ hk => hk.2) (.int .i64 t242)) (fun _ hk => hk.2) (.int .i64 t243)) (fun _ hk => hk.2) (.slice Ao102 t244.length co102)) (fun _ h_ => h_.1))) (Kd.R_base ho0) hb); have n2_ := Aside0.mk (Kd.R_lower (Kd.R_new' ho0 (Kd.R_lt (by (with_reducible repeat (first | apply Kd.R_alloc | apply Kd.R_drewN | apply Kd.R_drew)); exact (Kd.R_mono (Kd.R_far (p := ⟨gb248, 8, none⟩) (Kd.R_far (p := ⟨gb248, 7, none⟩) (Kd.R_far (p := ⟨gb248, 6, none⟩) (Kd.R_far (p := ⟨gb248, 5, none⟩) (Kd.R_far (p := ⟨gb248, 4, none⟩) (Kd.R_far (p := ⟨gb248, 3, none⟩) (Kd.R_far (p := ⟨gb248, 2, none⟩) (Kd.R_far (p := ⟨gb248, 1, none⟩) (Kd.R_far (p := ⟨gb248, 0, none⟩) (Kd.R_types HO246.out BK248.out (by decide)) (fun _ hk => hk.2) (.int .i64 t236)) (fun _ hk => hk.2) (.int .i64 t237)) (fun _ hk => hk.2) (.int .i64 t238)) (fun _ hk => hk.2) (.int .i64 t239)) (fun _ hk => hk.2) (.int .i64 t240)) (fun _ hk => hk.2) (.int .i64 t241)) (fun _ hk => hk.2) (.int .i64 t242)) (fun _ hk => hk.2) (.int .i64 t243)) (fun _ hk => hk.2) (.slice Ao102 t244.length co102)) (fun _ h_ => h_.1))))) (below_size (by repeat (first | (with_reducible first | exact HB.out | apply below_alloc | apply pw_below_drewN | apply below_drew1 | refine below_set ?_ GE193.out | refine below_set ?_ GE248.out) | exact HB.out)))); have n3_ := Aside0.mk (blk_below (g := gb193) (o := .cells #[.slice A0_0 l0_0.length c0_0, .slice A0_1 l0_1.length c0_1] 25 (0, 0)) (by (with_reducible repeat (first | refine blk_drewN ?_ _ | refine blk_drew ?_ | refine blk_alloc ?_ _)); refine blk_far ?_ NB193_248.out _; (with_reducible repeat (first | refine blk_drewN ?_ _ | refine blk_drew ?_ | refine blk_alloc ?_ _)); refine blk_far ?_ NB193_248.out _; (with_reducible repeat (first | refine blk_drewN ?_ _ | refine blk_drew ?_ | refine blk_alloc ?_ _)); refine blk_far ?_ NB193_248.out _; (with_reducible repeat (first | refine blk_drewN ?_ _ | refine blk_drew ?_ | refine blk_alloc ?_ _)); refine blk_far ?_ NB193_248.out _; (with_reducible repeat (first | refine blk_drewN ?_ _ | refine blk_drew ?_ | refine blk_alloc ?_ _)); refine blk_far ?_ NB193_248.out _; (with_reducible repeat (first | refine blk_drewN ?_ _ | refine blk_drew ?_ | refine blk_alloc ?_ _)); refine blk_far ?_ NB193_248.out _; (with_reducible repeat (first | refine blk_drewN ?_ _ | refine blk_drew ?_ | refine blk_alloc ?_ _)); refine blk_far ?_ NB193_248.out _; (with_reducible repeat (first | refine blk_drewN ?_ _ | refine blk_drew ?_ | refine blk_alloc ?_ _)); refine blk_far ?_ NB193_248.out _; (with_reducible repeat (first | refine blk_drewN ?_ _ | refine blk_drew ?_ | refine blk_alloc ?_ _)); refine blk_far ?_ NB193_248.out _; (with_reducible repeat (first | refine blk_drewN ?_ _ | refine blk_drew ?_ | refine blk_alloc ?_ _)); exact BK193.out) hb); have n4_ := Aside0.mk (blk_below (g := gb248) (o := .cells #[.int .i64 t236, .int .i64 t237, .int .i64 t238, .int .i64 t239, .int .i64 t240, .int .i64 t241, .int .i64 t242, .int .i64 t243, .slice Ao102 t244.length co102] 32 (0, 0)) (by (with_reducible repeat (first | refine blk_drewN ?_ _ | refine blk_drew ?_ | refine blk_alloc ?_ _)); refine blk_put (cs := #[.int .i64 t236, .int .i64 t237, .int .i64 t238, .int .i64 t239, .int .i64 t240, .int .i64 t241, .int .i64 t242, .int .i64 t243, .slice none 0 0]) ?_ 8 _ rfl; (with_reducible repeat (first | refine blk_drewN ?_ _ | refine blk_drew ?_ | refine blk_alloc ?_ _)); refine blk_put (cs := #[.int .i64 t236, .int .i64 t237, .int .i64 t238, .int .i64 t239, .int .i64 t240, .int .i64 t241, .int .i64 t242, .int .i64 0, .slice none 0 0]) ?_ 7 _ rfl; (with_reducible repeat (first | refine blk_drewN ?_ _ | refine blk_drew ?_ | refine blk_alloc ?_ _)); refine blk_put (cs := #[.int .i64 t236, .int .i64 t237, .int .i64 t238, .int .i64 t239, .int .i64 t240, .int .i64 t241, .int .i64 0, .int .i64 0, .slice none 0 0]) ?_ 6 _ rfl; (with_reducible repeat (first | refine blk_drewN ?_ _ | refine blk_drew ?_ | refine blk_alloc ?_ _)); refine blk_put (cs := #[.int .i64 t236, .int .i64 t237, .int .i64 t238, .int .i64 t239, .int .i64 t240, .int .i64 0, .int .i64 0, .int .i64 0, .slice none 0 0]) ?_ 5 _ rfl; (with_reducible repeat (first | refine blk_drewN ?_ _ | refine blk_drew ?_ | refine blk_alloc ?_ _)); refine blk_put (cs := #[.int .i64 t236, .int .i64 t237, .int .i64 t238, .int .i64 t239, .int .i64 0, .int .i64 0, .int .i64 0, .int .i64 0, .slice none 0 0]) ?_ 4 _ rfl; (with_reducible repeat (first | refine blk_drewN ?_ _ | refine blk_drew ?_ | refine blk_alloc ?_ _)); refine blk_put (cs := #[.int .i64 t236, .int .i64 t237, .int .i64 t238, .int .i64 0, .int .i64 0, .int .i64 0, .int .i64 0, .int .i64 0, .slice none 0 0]) ?_ 3 _ rfl; (with_reducible repeat (first | refine blk_drewN ?_ _ | refine blk_drew ?_ | refine blk_alloc ?_ _)); refine blk_put (cs := #[.int .i64 t236, .int .i64 t237, .int .i64 0, .int .i64 0, .int .i64 0, .int .i64 0, .int .i64 0, .int .i64 0, .slice none 0 0]) ?_ 2 _ rfl; (with_reducible repeat (first | refine blk_drewN ?_ _ | refine blk_drew ?_ | refine blk_alloc ?_ _)); refine blk_put (cs := #[.int .i64 t236, .int .i64 0, .int .i64 0, .int .i64 0, .int .i64 0, .int .i64 0, .int .i64 0, .int .i64 0, .slice none 0 0]) ?_ 1 _ rfl; (with_reducible repeat (first | refine blk_drewN ?_ _ | refine blk_drew ?_ | refine blk_alloc ?_ _)); refine blk_put (cs := #[.int .i64 0, .int .i64 0, .int .i64 0, .int .i64 0, .int .i64 0, .int .i64 0, .int .i64 0, .int .i64 0, .slice none 0 0]) ?_ 0 _ rfl; (with_reducible repeat (first | refine blk_drewN ?_ _ | refine blk_drew ?_ | refine blk_alloc ?_ _)); exact BK248.out) hb); have n5_ := Aside0.mk (below_step (by repeat (first | (with_reducible first | exact HB.out | apply below_alloc | apply pw_below_drewN | apply below_drew1 | refine below_set ?_ GE193.out | refine below_set ?_ GE248.out) | exact HB.out)) hb); clear HO_3; clear HO246; clear BK193; clear BK248; clear HB; have HO_3 := n0_; have HO246 := n1_; have HO260 := n2_; have BK193 := n3_; have BK248 := n4_; have HB := n5_; clear n0_ n1_ n2_ n3_ n4_ n5_; (try clear hb); (try clear hb2); (try clear hk); (try clear hi); (try clear ho0)) | ((with_reducible refine gate_dst (N := 15) rfl ?_); refine box_event ?hg (N := 15) ?hd (cs := #[.int .i64 0, .int .i64 0, .int .i64 0, .int .i64 0, .int .i64 0, .int .i64 0, .int .i64 0, .int .i64 0, .slice none 0 0]) (t := 32) ?hr ?_; (case hd => rfl); (case hg => rfl); (case hr => first | (go_simp; done) | (go_simp; rfl)); intro gb262 hg w104 hbox hb; have n0_ := Aside0.mk (Kd.R_below (by (with_reducible repeat (first | apply Kd.R_alloc | apply Kd.R_drewN | apply Kd.R_drew)); exact HO_3.out) hb); have n1_ := Aside0.mk (Kd.R_below (by (with_reducible repeat (first | apply Kd.R_alloc | apply Kd.R_drewN | apply Kd.R_drew)); exact HO246.out) hb); have n2_ := Aside0.mk (Kd.R_below (by (with_reducible repeat (first | apply Kd.R_alloc | apply Kd.R_drewN | apply Kd.R_drew)); exact HO260.out) hb); have n3_ := Aside0.mk (blk_below (g := gb193) (o := .cells #[.slice A0_0 l0_0.length c0_0, .slice A0_1 l0_1.length c0_1] 25 (0, 0)) (by (with_reducible repeat (first | refine blk_drewN ?_ _ | refine blk_drew ?_ | refine blk_alloc ?_ _)); exact BK193.out) hb); have n4_ := Aside0.mk (blk_below (g := gb248) (o := .cells #[.int .i64 t236, .int .i64 t237, .int .i64 t238, .int .i64 t239, .int .i64 t240, .int .i64 t241, .int .i64 t242, .int .i64 t243, .slice Ao102 t244.length co102] 32 (0, 0)) (by (with_reducible repeat (first | refine blk_drewN ?_ _ | refine blk_drew ?_ | refine blk_alloc ?_ _)); exact BK248.out) hb); have n5_ := Aside0.mk (below_step (by repeat (first | (with_reducible first | exact HB.out | apply below_alloc | apply pw_below_drewN | apply below_drew1 | refine below_set ?_ GE193.out | refine below_set ?_ GE248.out) | exact HB.out)) hb); have n6_ := Aside0.mk (hbox); have n7_ := Aside0.mk ((by rw [hg]; exact (below_size (by repeat (first | (with_reducible first | exact HB.out | apply below_alloc | apply pw_below_drewN | apply below_drew1 | refine below_set ?_ GE193.out | refine below_set ?_ GE248.out) | exact HB.out))) : w.heap.size ≤ gb262)); have n8_ := Aside0.mk ((by rw [hg]; exact (below_size (by repeat (first | (with_reducible first | exact HB.out | apply below_alloc | apply pw_below_drewN | apply below_drew1 | refine below_set ?_ GE193.out | refine below_set ?_ GE248.out) | exact HB.out))) : w.heap.size ≤ gb262)); have n9_ := Aside0.mk ((by rw [hg]; exact Nat.ne_of_lt (blk_lt (g := gb193) (o := .cells #[.slice A0_0 l0_0.length c0_0, .slice A0_1 l0_1.length c0_1] 25 (0, 0)) (by (with_reducible repeat (first | refine blk_drewN ?_ _ | refine blk_drew ?_ | refine blk_alloc ?_ _)); exact BK193.out)) : gb193 ≠ gb262)); have n10_ := Aside0.mk ((by rw [hg]; exact Nat.ne_of_gt (blk_lt (g := gb193) (o := .cells #[.slice A0_0 l0_0.length c0_0, .slice A0_1 l0_1.length c0_1] 25 (0, 0)) (by (with_reducible repeat (first | refine blk_drewN ?_ _ | refine blk_drew ?_ | refine blk_alloc ?_ _)); exact BK193.out)) : gb262 ≠ gb193)); have n11_ := Aside0.mk ((by rw [hg]; exact Nat.ne_of_lt (blk_lt (g := gb248) (o := .cells #[.int .i64 t236, .int .i64 t237, .int .i64 t238, .int .i64 t239, .int .i64 t240, .int .i64 t241, .int .i64 t242, .int .i64 t243, .slice Ao102 t244.length co102] 32 (0, 0)) (by (with_reducible repeat (first | refine blk_drewN ?_ _ | refine blk_drew ?_ | refine blk_alloc ?_ _)); exact BK248.out)) : gb248 ≠ gb262)); have n12_ := Aside0.mk ((by rw [hg]; exact Nat.ne_of_gt (blk_lt (g := gb248) (o := .cells #[.int .i64 t236, .int .i64 t237, .int .i64 t238, .int .i64 t239, .int .i64 t240, .int .i64 t241, .int .i64 t242, .int .i64 t243, .slice Ao102 t244.length co102] 32 (0, 0)) (by (with_reducible repeat (first | refine blk_drewN ?_ _ | refine blk_drew ?_ | refine blk_alloc ?_ _)); exact BK248.out)) : gb262 ≠ gb248)); clear HO_3; clear HO246; clear HO260; clear BK193; clear BK248; clear HB; have HO_3 := n0_; have HO246 := n1_; have HO260 := n2_; have BK193 := n3_; have BK248 := n4_; have HB := n5_; have BK262 := n6_; have GW262 := n7_; have GE262 := n8_; have NB193_262 := n9_; have NB262_193 := n10_; have NB248_262 := n11_; have NB262_248 := n12_; clear n0_ n1_ n2_ n3_ n4_ n5_ n6_ n7_ n8_ n9_ n10_ n11_ n12_; clear hb hbox hg; have hnb105 := NB262_193.out; have hnc105 := NB193_262.out; have hnb106 := NB262_248.out; have hnc106 := NB248_262.out; have hcz107_0 : w104.cell? ⟨gb262, 0, none⟩ = some (.int .i64 0) := (blk_cell BK262.out 0).trans rfl; have hcz107_1 : w104.cell? ⟨gb262, 1, none⟩ = some (.int .i64 0) := (blk_cell BK262.out 1).trans rfl; have hcz107_2 : w104.cell? ⟨gb262, 2, none⟩ = some (.int .i64 0) := (blk_cell BK262.out 2).trans rfl; have hcz107_3 : w104.cell? ⟨gb262, 3, none⟩ = some (.int .i64 0) := (blk_cell BK262.out 3).trans rfl; have hcz107_4 : w104.cell? ⟨gb262, 4, none⟩ = some (.int .i64 0) := (blk_cell BK262.out 4).trans rfl; have hcz107_5 : w104.cell? ⟨gb262, 5, none⟩ = some (.int .i64 0) := (blk_cell BK262.out 5).trans rfl; have hcz107_6 : w104.cell? ⟨gb262, 6, none⟩ = some (.int .i64 0) := (blk_cell BK262.out 6).trans rfl; have hcz107_7 : w104.cell? ⟨gb262, 7, none⟩ = some (.int .i64 0) := (blk_cell BK262.out 7).trans rfl; have hcz107_8 : w104.cell? ⟨gb262, 8, none⟩ = some (.slice none 0 0) := (blk_cell BK262.out 8).trans rfl; have hfz107_0 := blk_frozen BK262.out 0; have hfz107_1 := blk_frozen BK262.out 1; have hfz107_2 := blk_frozen BK262.out 2; have hfz107_3 := blk_frozen BK262.out 3; have hfz107_4 := blk_frozen BK262.out 4; have hfz107_5 := blk_frozen BK262.out 5; have hfz107_6 := blk_frozen BK262.out 6; have hfz107_7 := blk_frozen BK262.out 7; have hfz107_8 := blk_frozen BK262.out 8; obtain ⟨Ao108, co108, eo108⟩ := Kd.R_slice HO260.out; subst eo108) | ((with_reducible refine gate_callee (f := 14) rfl ?_); refine goesL_ (some 131) rfl rfl Try.func14 (by kernel_rfl) rfl #[.int .i64 t247] rfl (by (try simp only [List.map_toArray, List.map_cons, List.map_nil]); first | done | rfl | (simp only [List.length_drop, List.length_take]; rfl)) ?_; (with_reducible refine (quilllaw25_num.calls t247 t263 _ A74.out).mono ?_); rintro e w' ⟨rfl, ⟨nd, rfl⟩⟩; refine ⟨_, rfl, ?_⟩) | (go_at_call 14; (with_reducible refine (quilllaw25_num.calls t247 t265 _ A93.out).mono ?_); rintro e w' ⟨rfl, ⟨nd, rfl⟩⟩; have hcz109_0 : w104.cell? ⟨gb248, 0, none⟩ = some (.int .i64 t236) := (blk_cell BK248.out 0).trans rfl; have hcz109_1 : w104.cell? ⟨gb248, 1, none⟩ = some (.int .i64 t237) := (blk_cell BK248.out 1).trans rfl; have hcz109_2 : w104.cell? ⟨gb248, 2, none⟩ = some (.int .i64 t238) := (blk_cell BK248.out 2).trans rfl; have hcz109_3 : w104.cell? ⟨gb248, 3, none⟩ = some (.int .i64 t239) := (blk_cell BK248.out 3).trans rfl; have hcz109_4 : w104.cell? ⟨gb248, 4, none⟩ = some (.int .i64 t240) := (blk_cell BK248.out 4).trans rfl; have hcz109_5 : w104.cell? ⟨gb248, 5, none⟩ = some (.int .i64 t241) := (blk_cell BK248.out 5).trans rfl; have hcz109_6 : w104.cell? ⟨gb248, 6, none⟩ = some (.int .i64 t242) := (blk_cell BK248.out 6).trans rfl; have hcz109_7 : w104.cell? ⟨gb248, 7, none⟩ = some (.int .i64 t243) := (blk_cell BK248.out 7).trans rfl; have hcz109_8 : w104.cell? ⟨gb248, 8, none⟩ = some (.slice Ao102 t244.length co102) := (blk_cell BK248.out 8).trans rfl; have hfz109_0 := blk_frozen BK248.out 0; have hfz109_1 := blk_frozen BK248.out 1; have hfz109_2 := blk_frozen BK248.out 2; have hfz109_3 := blk_frozen BK248.out 3; have hfz109_4 := blk_frozen BK248.out 4; have hfz109_5 := blk_frozen BK248.out 5; have hfz109_6 := blk_frozen BK248.out 6; have hfz109_7 := blk_frozen BK248.out 7; have hfz109_8 := blk_frozen BK248.out 8) | (go_at_call 15; (with_reducible refine (quillref0_EqOp.calls k3 t236 t237 t238 t239 t240 t241 t242 t243 _ _ t244 t250 t251 t252 t253 t254 t255 t256 t257 _ _ t258 true _ ?side1 ?side2 ?side3 ?side4 A95.out).mono ?_); (case side1 => refine (Kd.R_reads' (e := 3) (base := w.heap.size) (ok := fun k_ => (True ∧ some k_ ≠ (.slice Ao108 t258.length co108 : Value).ownBlock)) (n := t244.length) (c := co102) ?_).2.2; exact (by (with_reducible repeat (first | apply Kd.R_alloc | apply Kd.R_drewN | apply Kd.R_drew)); exact (Kd.R_mono (Kd.R_far (p := ⟨gb262, 8, none⟩) (Kd.R_far (p := ⟨gb262, 7, none⟩) (Kd.R_far (p := ⟨gb262, 6, none⟩) (Kd.R_far (p := ⟨gb262, 5, none⟩) (Kd.R_far (p := ⟨gb262, 4, none⟩) (Kd.R_far (p := ⟨gb262, 3, none⟩) (Kd.R_far (p := ⟨gb262, 2, none⟩) (Kd.R_far (p := ⟨gb262, 1, none⟩) (Kd.R_far (p := ⟨gb262, 0, none⟩) (Kd.R_types HO246.out BK262.out (by decide)) (fun _ hk => hk.2) (.int .i64 t250)) (fun _ hk => hk.2) (.int .i64 t251)) (fun _ hk => hk.2) (.int .i64 t252)) (fun _ hk => hk.2) (.int .i64 t253)) (fun _ hk => hk.2) (.int .i64 t254)) (fun _ hk => hk.2) (.int .i64 t255)) (fun _ hk => hk.2) (.int .i64 t256)) (fun _ hk => hk.2) (.int .i64 t257)) (fun _ hk => hk.2) (.slice Ao108 t258.length co108)) (fun _ h_ => h_.1)))); (case side2 => exact (Kd.R_reads' HO246.out).2.1); (case side3 => refine (Kd.R_reads' (e := 3) (base := w.heap.size) (ok := fun k_ => (True ∧ some k_ ≠ (.slice Ao102 t244.length co102 : Value).ownBlock)) (n := t258.length) (c := co108) ?_).2.2; exact (by (with_reducible repeat (first | apply Kd.R_alloc | apply Kd.R_drewN | apply Kd.R_drew)); exact (Kd.R_mono (Kd.R_far (p := ⟨gb262, 8, none⟩) (Kd.R_far (p := ⟨gb262, 7, none⟩) (Kd.R_far (p := ⟨gb262, 6, none⟩) (Kd.R_far (p := ⟨gb262, 5, none⟩) (Kd.R_far (p := ⟨gb262, 4, none⟩) (Kd.R_far (p := ⟨gb262, 3, none⟩) (Kd.R_far (p := ⟨gb262, 2, none⟩) (Kd.R_far (p := ⟨gb262, 1, none⟩) (Kd.R_far (p := ⟨gb262, 0, none⟩) (Kd.R_types HO260.out BK262.out (by decide)) (fun _ hk => hk.2) (.int .i64 t250)) (fun _ hk => hk.2) (.int .i64 t251)) (fun _ hk => hk.2) (.int .i64 t252)) (fun _ hk => hk.2) (.int .i64 t253)) (fun _ hk => hk.2) (.int .i64 t254)) (fun _ hk => hk.2) (.int .i64 t255)) (fun _ hk => hk.2) (.int .i64 t256)) (fun _ hk => hk.2) (.int .i64 t257)) (fun _ hk => hk.2) (.slice Ao108 t258.length co108)) (fun _ h_ => h_.1)))); (case side4 => exact (Kd.R_reads' HO260.out).2.1); rintro e w110 ⟨rfl, hb⟩; have n0_ := Aside0.mk (Kd.R_below (by (with_reducible repeat (first | apply Kd.R_alloc | apply Kd.R_drewN | apply Kd.R_drew)); exact (Kd.R_mono (Kd.R_far (p := ⟨gb262, 8, none⟩) (Kd.R_far (p := ⟨gb262, 7, none⟩) (Kd.R_far (p := ⟨gb262, 6, none⟩) (Kd.R_far (p := ⟨gb262, 5, none⟩) (Kd.R_far (p := ⟨gb262, 4, none⟩) (Kd.R_far (p := ⟨gb262, 3, none⟩) (Kd.R_far (p := ⟨gb262, 2, none⟩) (Kd.R_far (p := ⟨gb262, 1, none⟩) (Kd.R_far (p := ⟨gb262, 0, none⟩) (Kd.R_types HO_3.out BK262.out (by decide)) (fun _ hk => hk.2) (.int .i64 t250)) (fun _ hk => hk.2) (.int .i64 t251)) (fun _ hk => hk.2) (.int .i64 t252)) (fun _ hk => hk.2) (.int .i64 t253)) (fun _ hk => hk.2) (.int .i64 t254)) (fun _ hk => hk.2) (.int .i64 t255)) (fun _ hk => hk.2) (.int .i64 t256)) (fun _ hk => hk.2) (.int .i64 t257)) (fun _ hk => hk.2) (.slice Ao108 t258.length co108)) (fun _ h_ => h_.1))) hb); have n1_ := Aside0.mk (Kd.R_below (by (with_reducible repeat (first | apply Kd.R_alloc | apply Kd.R_drewN | apply Kd.R_drew)); exact (Kd.R_mono (Kd.R_far (p := ⟨gb262, 8, none⟩) (Kd.R_far (p := ⟨gb262, 7, none⟩) (Kd.R_far (p := ⟨gb262, 6, none⟩) (Kd.R_far (p := ⟨gb262, 5, none⟩) (Kd.R_far (p := ⟨gb262, 4, none⟩) (Kd.R_far (p := ⟨gb262, 3, none⟩) (Kd.R_far (p := ⟨gb262, 2, none⟩) (Kd.R_far (p := ⟨gb262, 1, none⟩) (Kd.R_far (p := ⟨gb262, 0, none⟩) (Kd.R_types HO246.out BK262.out (by decide)) (fun _ hk => hk.2) (.int .i64 t250)) (fun _ hk => hk.2) (.int .i64 t251)) (fun _ hk => hk.2) (.int .i64 t252)) (fun _ hk => hk.2) (.int .i64 t253)) (fun _ hk => hk.2) (.int .i64 t254)) (fun _ hk => hk.2) (.int .i64 t255)) (fun _ hk => hk.2) (.int .i64 t256)) (fun _ hk => hk.2) (.int .i64 t257)) (fun _ hk => hk.2) (.slice Ao108 t258.length co108)) (fun _ h_ => h_.1))) hb); have n2_ := Aside0.mk (Kd.R_below (by (with_reducible repeat (first | apply Kd.R_alloc | apply Kd.R_drewN | apply Kd.R_drew)); exact (Kd.R_mono (Kd.R_far (p := ⟨gb262, 8, none⟩) (Kd.R_far (p := ⟨gb262, 7, none⟩) (Kd.R_far (p := ⟨gb262, 6, none⟩) (Kd.R_far (p := ⟨gb262, 5, none⟩) (Kd.R_far (p := ⟨gb262, 4, none⟩) (Kd.R_far (p := ⟨gb262, 3, none⟩) (Kd.R_far (p := ⟨gb262, 2, none⟩) (Kd.R_far (p := ⟨gb262, 1, none⟩) (Kd.R_far (p := ⟨gb262, 0, none⟩) (Kd.R_types HO260.out BK262.out (by decide)) (fun _ hk => hk.2) (.int .i64 t250)) (fun _ hk => hk.2) (.int .i64 t251)) (fun _ hk => hk.2) (.int .i64 t252)) (fun _ hk => hk.2) (.int .i64 t253)) (fun _ hk => hk.2) (.int .i64 t254)) (fun _ hk => hk.2) (.int .i64 t255)) (fun _ hk => hk.2) (.int .i64 t256)) (fun _ hk => hk.2) (.int .i64 t257)) (fun _ hk => hk.2) (.slice Ao108 t258.length co108)) (fun _ h_ => h_.1))) hb); have n3_ := Aside0.mk (blk_below (g := gb193) (o := .cells #[.slice A0_0 l0_0.length c0_0, .slice A0_1 l0_1.length c0_1] 25 (0, 0)) (by (with_reducible repeat (first | refine blk_drewN ?_ _ | refine blk_drew ?_ | refine blk_alloc ?_ _)); refine blk_far ?_ NB193_262.out _; (with_reducible repeat (first | refine blk_drewN ?_ _ | refine blk_drew ?_ | refine blk_alloc ?_ _)); refine blk_far ?_ NB193_262.out _; (with_reducible repeat (first | refine blk_drewN ?_ _ | refine blk_drew ?_ | refine blk_alloc ?_ _)); refine blk_far ?_ NB193_262.out _; (with_reducible repeat (first | refine blk_drewN ?_ _ | refine blk_drew ?_ | refine blk_alloc ?_ _)); refine blk_far ?_ NB193_262.out _; (with_reducible repeat (first | refine blk_drewN ?_ _ | refine blk_drew ?_ | refine blk_alloc ?_ _)); refine blk_far ?_ NB193_262.out _; (with_reducible repeat (first | refine blk_drewN ?_ _ | refine blk_drew ?_ | refine blk_alloc ?_ _)); refine blk_far ?_ NB193_262.out _; (with_reducible repeat (first | refine blk_drewN ?_ _ | refine blk_drew ?_ | refine blk_alloc ?_ _)); refine blk_far ?_ NB193_262.out _; (with_reducible repeat (first | refine blk_drewN ?_ _ | refine blk_drew ?_ | refine blk_alloc ?_ _)); refine blk_far ?_ NB193_262.out _; (with_reducible repeat (first | refine blk_drewN ?_ _ | refine blk_drew ?_ | refine blk_alloc ?_ _)); refine blk_far ?_ NB193_262.out _; (with_reducible repeat (first | refine blk_drewN ?_ _ | refine blk_drew ?_ | refine blk_alloc ?_ _)); exact BK193.out) hb); have n4_ := Aside0.mk (blk_below (g := gb248) (o := .cells #[.int .i64 t236, .int .i64 t237, .int .i64 t238, .int .i64 t239, .int .i64 t240, .int .i64 t241, .int .i64 t242, .int .i64 t243, .slice Ao102 t244.length co102] 32 (0, 0)) (by (with_reducible repeat (first | refine blk_drewN ?_ _ | refine blk_drew ?_ | refine blk_alloc ?_ _)); refine blk_far ?_ NB248_262.out _; (with_reducible repeat (first | refine blk_drewN ?_ _ | refine blk_drew ?_ | refine blk_alloc ?_ _)); refine blk_far ?_ NB248_262.out _; (with_reducible repeat (first | refine blk_drewN ?_ _ | refine blk_drew ?_ | refine blk_alloc ?_ _)); refine blk_far ?_ NB248_262.out _; (with_reducible repeat (first | refine blk_drewN ?_ _ | refine blk_drew ?_ | refine blk_alloc ?_ _)); refine blk_far ?_ NB248_262.out _; (with_reducible repeat (first | refine blk_drewN ?_ _ | refine blk_drew ?_ | refine blk_alloc ?_ _)); refine blk_far ?_ NB248_262.out _; (with_reducible repeat (first | refine blk_drewN ?_ _ | refine blk_drew ?_ | refine blk_alloc ?_ _)); refine blk_far ?_ NB248_262.out _; (with_reducible repeat (first | refine blk_drewN ?_ _ | refine blk_drew ?_ | refine blk_alloc ?_ _)); refine blk_far ?_ NB248_262.out _; (with_reducible repeat (first | refine blk_drewN ?_ _ | refine blk_drew ?_ | refine blk_alloc ?_ _)); refine blk_far ?_ NB248_262.out _; (with_reducible repeat (first | refine blk_drewN ?_ _ | refine blk_drew ?_ | refine blk_alloc ?_ _)); refine blk_far ?_ NB248_262.out _; (with_reducible repeat (first | refine blk_drewN ?_ _ | refine blk_drew ?_ | refine blk_alloc ?_ _)); exact BK248.out) hb); have n5_ := Aside0.mk (blk_below (g := gb262) (o := .cells #[.int .i64 t250, .int .i64 t251, .int .i64 t252, .int .i64 t253, .int .i64 t254, .int .i64 t255, .int .i64 t256, .int .i64 t257, .slice Ao108 t258.length co108] 32 (0, 0)) (by (with_reducible repeat (first | refine blk_drewN ?_ _ | refine blk_drew ?_ | refine blk_alloc ?_ _)); refine blk_put (cs := #[.int .i64 t250, .int .i64 t251, .int .i64 t252, .int .i64 t253, .int .i64 t254, .int .i64 t255, .int .i64 t256, .int .i64 t257, .slice none 0 0]) ?_ 8 _ rfl; (with_reducible repeat (first | refine blk_drewN ?_ _ | refine blk_drew ?_ | refine blk_alloc ?_ _)); refine blk_put (cs := #[.int .i64 t250, .int .i64 t251, .int .i64 t252, .int .i64 t253, .int .i64 t254, .int .i64 t255, .int .i64 t256, .int .i64 0, .slice none 0 0]) ?_ 7 _ rfl; (with_reducible repeat (first | refine blk_drewN ?_ _ | refine blk_drew ?_ | refine blk_alloc ?_ _)); refine blk_put (cs := #[.int .i64 t250, .int .i64 t251, .int .i64 t252, .int .i64 t253, .int .i64 t254, .int .i64 t255, .int .i64 0, .int .i64 0, .slice none 0 0]) ?_ 6 _ rfl; (with_reducible repeat (first | refine blk_drewN ?_ _ | refine blk_drew ?_ | refine blk_alloc ?_ _)); refine blk_put (cs := #[.int .i64 t250, .int .i64 t251, .int .i64 t252, .int .i64 t253, .int .i64 t254, .int .i64 0, .int .i64 0, .int .i64 0, .slice none 0 0]) ?_ 5 _ rfl; (with_reducible repeat (first | refine blk_drewN ?_ _ | refine blk_drew ?_ | refine blk_alloc ?_ _)); refine blk_put (cs := #[.int .i64 t250, .int .i64 t251, .int .i64 t252, .int .i64 t253, .int .i64 0, .int .i64 0, .int .i64 0, .int .i64 0, .slice none 0 0]) ?_ 4 _ rfl; (with_reducible repeat (first | refine blk_drewN ?_ _ | refine blk_drew ?_ | refine blk_alloc ?_ _)); refine blk_put (cs := #[.int .i64 t250, .int .i64 t251, .int .i64 t252, .int .i64 0, .int .i64 0, .int .i64 0, .int .i64 0, .int .i64 0, .slice none 0 0]) ?_ 3 _ rfl; (with_reducible repeat (first | refine blk_drewN ?_ _ | refine blk_drew ?_ | refine blk_alloc ?_ _)); refine blk_put (cs := #[.int .i64 t250, .int .i64 t251, .int .i64 0, .int .i64 0, .int .i64 0, .int .i64 0, .int .i64 0, .int .i64 0, .slice none 0 0]) ?_ 2 _ rfl; (with_reducible repeat (first | refine blk_drewN ?_ _ | refine blk_drew ?_ | refine blk_alloc ?_ _)); refine blk_put (cs := #[.int .i64 t250, .int .i64 0, .int .i64 0, .int .i64 0, .int .i64 0, .int .i64 0, .int .i64 0, .int .i64 0, .slice none 0 0]) ?_ 1 _ rfl; (with_reducible repeat (first | refine blk_drewN ?_ _ | refine blk_drew ?_ | refine blk_alloc ?_ _)); refine blk_put (cs := #[.int .i64 0, .int .i64 0, .int .i64 0, .int .i64 0, .int .i64 0, .int .i64 0, .int .i64 0, .int .i64 0, .slice none 0 0]) ?_ 0 _ rfl; (with_reducible repeat (first | refine blk_drewN ?_ _ | refine blk_drew ?_ | refine blk_alloc ?_ _)); exact BK262.out) hb); have n6_ := Aside0.mk (below_step (by repeat (first | (with_reducible first | exact HB.out | apply below_alloc | apply pw_below_drewN | apply below_drew1 | refine below_set ?_ GE193.out | refine below_set ?_ GE248.out | refine below_set ?_ GE262.out) | exact HB.out)) hb); clear HO_3; clear HO246; clear HO260; clear BK193; clear BK248; clear BK262; clear HB; have HO_3 := n0_; have HO246 := n1_; have HO260 := n2_; have BK193 := n3_; have BK248 := n4_; have BK262 := n5_; have HB := n6_; clear n0_ n1_ n2_ n3_ n4_ n5_ n6_; (try clear hb); (try clear hb2); (try clear hk); (try clear hi)))
               go_roundg k3
               case measure => have := HK1.out; have := HJ12.out; have := HK3.out; omega
               case rel => exact ⟨(wrap64 (x12_3 + 1)), (by first | rfl | (simp; done) | (simp [*]; done)), H', ⟨by have := HK1.out; have := HJ12.out; have := HK3.out; omega⟩, ⟨by (with_reducible repeat (first | apply Kd.R_alloc | apply Kd.R_drewN | apply Kd.R_drew)); exact HO_3.out⟩, ⟨by (with_reducible repeat (first | refine blk_drewN ?_ _ | refine blk_drew ?_ | refine blk_alloc ?_ _)); exact BK193.out⟩, ⟨by repeat (first | (with_reducible first | exact HB.out | apply below_alloc | apply pw_below_drewN | apply below_drew1 | refine below_set ?_ GE193.out | refine below_set ?_ GE248.out | refine below_set ?_ GE262.out) | exact HB.out)⟩⟩
              ·
               replace c96 := Bool.eq_false_iff.mpr c96
               subst c96
               have H1 : (some false) = some r := by rw [if_neg (show ¬ (false = true) by decide)] at H; exact H
               clear H
               have H := H1
               clear H1
               exact absurd (H.trans (congrArg some HRT.out)) (by decide)
             ·
              rw [if_neg c94] at H
              have c94b0 : (t265 == 9) = false := beq_eq_false_iff_ne.mpr c94
              have c94b1 : (t265 != 9) = true := bne_iff_ne.mpr c94
              exact absurd (H.trans (congrArg some HRT.out)) (by decide)
          ·
           rw [if_neg c71] at H
           exact absurd H (by simp)
         ·
          rw [if_neg c70] at H
          have c70b0 : decide (x12_3 < (x3_1.length : Int)) = false := decide_eq_false c70
          clear c70
          replace H := Option.bind_eq_some_iff.mp H
          obtain ⟨t234, A1110, H⟩ := H
          replace H : (some t234) = some r := H
          have A111 := Aside0.mk A1110
          clear A1110
          obtain rfl := Option.some.inj H
          obtain ⟨Ao112, co112, eo112⟩ := Kd.R_slice HO_3.out
          subst eo112
          go_wp2_with (first | ((with_reducible refine gate_callee (f := 18) rfl ?_); refine goesL_ (some 149) rfl rfl Try.func18 (by kernel_rfl) rfl #[] rfl (by (try simp only [List.map_toArray, List.map_cons, List.map_nil]); first | done | rfl | (simp only [List.length_drop, List.length_take]; rfl)) ?_; (with_reducible refine (quilllaw25_wakes.calls k3  t234 _ A111.out).mono ?_); rintro e w113 ⟨rfl, hb⟩; refine ⟨_, rfl, ?_⟩; have n0_ := Aside0.mk (Kd.R_below (by (with_reducible repeat (first | apply Kd.R_alloc | apply Kd.R_drewN | apply Kd.R_drew)); exact HO_3.out) hb); have n1_ := Aside0.mk (blk_below (g := gb193) (o := .cells #[.slice A0_0 l0_0.length c0_0, .slice A0_1 l0_1.length c0_1] 25 (0, 0)) (by (with_reducible repeat (first | refine blk_drewN ?_ _ | refine blk_drew ?_ | refine blk_alloc ?_ _)); exact BK193.out) hb); have n2_ := Aside0.mk (below_step (by repeat (first | (with_reducible first | exact HB.out | apply below_alloc | apply pw_below_drewN | apply below_drew1 | refine below_set ?_ GE193.out) | exact HB.out)) hb); clear HO_3; clear BK193; clear HB; have HO_3 := n0_; have BK193 := n1_; have HB := n2_; clear n0_ n1_ n2_; (try clear hb); (try clear hb2); (try clear hk); (try clear hi)))
          go_ret
          exact ⟨by first | rfl | (simp [errW_none, errW_some] <;> rfl) | (simp [*, errW_none, errW_some] <;> rfl), by repeat (first | (with_reducible first | exact HB.out | apply below_alloc | apply pw_below_drewN | apply below_drew1 | refine below_set ?_ GE193.out) | exact HB.out)⟩

end Go.Proofs.Ytimecfelcjgpiaa.Cy
