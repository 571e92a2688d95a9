import Derived.Test.YtfiapekpeiapbaaDoorRow
/-! quilllaw10.Ask opened. -/
namespace Go.Proofs.YtfiapekpeiapbaaDoor.F
open Go.RowKit Go.ChangeShapes Go.WideShapes Go.ChangeAt Go.Lib Go.Shelf
open Go.Proofs.YtfiapekpeiapbaaDoorW.PrintWords Go.Proofs.YtfiapekpeiapbaaDoorW.PrintLast
set_option maxRecDepth 100000
/-- quilllaw10.Ask's eight cells. -/
def K50 (w : World) (x : (List ByteArray × Int × Int × Int × Int) × Int × Int × Int) (cs : List Value) : Prop :=
  ∃ A c, cs = [.slice A x.1.1.length c, .int .i64 x.1.2.1, .int .i64 x.1.2.2.1, .int .i64 x.1.2.2.2.1, .int .i64 x.1.2.2.2.2, .int .i64 x.2.1, .int .i64 x.2.2.1, .int .i64 x.2.2.2] ∧
    x.1.1.length ≤ c ∧ Kd.C Kd.string w A x.1.1.length x.1.1
theorem open50 : Opens Tryd.prog 50 K50 (fun x => SizeOk x.1.1 ∧ (In64 x.1.2.1 ∧ In64 x.1.2.2.1 ∧ In64 x.1.2.2.2.1 ∧ In64 x.1.2.2.2.2) ∧ In64 x.2.1 ∧ In64 x.2.2.1 ∧ In64 x.2.2.2) := by
  intro H enc w held fuel cs x h hw
  obtain ⟨hl, hf⟩ := open_fields Tryd.underlying50 h hw
  match cs, hl with
  | [v0, v1, v2, v3, v4, v5, v6, v7], _ =>
    obtain ⟨x0, k0, o0⟩ := hf 0 0 5 _ rfl rfl (show Tryd.prog.cellsOf 26 = 5 from by kernel_rfl) open26
    obtain ⟨x1, k1, o1⟩ := hf 1 5 1 _ rfl rfl c3 (Opens.int Tryd.underlying3)
    obtain ⟨x2, k2, o2⟩ := hf 2 6 1 _ rfl rfl c3 (Opens.int Tryd.underlying3)
    obtain ⟨x3, k3, o3⟩ := hf 3 7 1 _ rfl rfl c3 (Opens.int Tryd.underlying3)
    obtain ⟨A0, c0, e0, l0, r0⟩ := k0
    have e0' : [v0, v1, v2, v3, v4] = _ := e0
    have e1 : [v5] = [.int .i64 x1] := k1
    have e2 : [v6] = [.int .i64 x2] := k2
    have e3 : [v7] = [.int .i64 x3] := k3
    cases e0'; cases e1; cases e2; cases e3
    exact ⟨(x0, x1, x2, x3), ⟨A0, c0, rfl, l0, r0⟩, o0.1, o0.2, .of o1, .of o2, .of o3⟩
end Go.Proofs.YtfiapekpeiapbaaDoor.F
