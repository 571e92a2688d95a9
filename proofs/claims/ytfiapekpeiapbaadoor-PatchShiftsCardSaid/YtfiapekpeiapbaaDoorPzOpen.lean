import Derived.Test.YtfiapekpeiapbaaDoorRow
import Derived.Test.YtfiapekpeiapbaaDoorPzx0
/-! quilllaw4.Ask opened. -/
namespace Go.Proofs.YtfiapekpeiapbaaDoor.F
open Go.RowKit Go.ChangeShapes Go.WideShapes Go.ChangeAt Go.Lib Go.Shelf
open Go.Proofs.YtfiapekpeiapbaaDoorW.PrintWords Go.Proofs.YtfiapekpeiapbaaDoorW.PrintLast
set_option maxRecDepth 100000
theorem c27 : Tryd.prog.cellsOf 27 = 1 := by kernel_rfl
theorem c26 : Tryd.prog.cellsOf 26 = 5 := by kernel_rfl
theorem open32 : Opens Tryd.prog 32 Pz.k32.K (fun x => In64 x.f0 ∧ In64 x.f1 ∧ x.f2.size ≤ reachBytes) := by
  intro H enc w held fuel cs x h hw
  obtain ⟨hl, hf⟩ := open_fields Tryd.underlying32 h hw
  match cs, hl with
  | [v0, v1, v2], _ =>
    obtain ⟨x0, k0, o0⟩ := hf 0 0 1 _ rfl rfl c3 (Opens.int Tryd.underlying3)
    obtain ⟨x1, k1, o1⟩ := hf 1 1 1 _ rfl rfl c3 (Opens.int Tryd.underlying3)
    obtain ⟨x2, k2, o2⟩ := hf 2 2 1 _ rfl rfl c9 (Opens.string Tryd.underlying9)
    have e0 : [v0] = [.int .i64 x0] := k0
    have e1 : [v1] = [.int .i64 x1] := k1
    have e2 : [v2] = [.string x2] := k2
    cases e0; cases e1; cases e2
    exact ⟨⟨x0, x1, x2⟩, Pz.k32_mk w ⟨x0, x1, x2⟩, .of o0, .of o1, o2⟩
def PatchesOk (l : List Pz.S32) : Prop := (∀ x ∈ l, In64 x.f0 ∧ In64 x.f1 ∧ x.f2.size ≤ 140737488355327) ∧ l.length ≤ 140737488355327
theorem open27 : Opens Tryd.prog 27 (Kd.slice 32 Pz.k32).K PatchesOk := by
  intro H enc w held fuel cs x h hw
  obtain ⟨l, hk, h1, h2, _⟩ := Opens.slice 32 (d := Pz.k32) Tryd.underlying27 (by kernel_rfl) open32 H enc w held fuel cs x h hw
  rw [show Tryd.prog.bytesOf 32 = 32 from by kernel_rfl] at h2
  have := reach_le
  exact ⟨l, hk, fun s hs => ⟨(h1 s hs).1, (h1 s hs).2.1, Nat.le_trans (h1 s hs).2.2 reach_le⟩, by omega⟩
/-- quilllaw4.Ask's seven cells. -/
def K29 (w : World) (x : (List ByteArray × Int × Int × Int × Int) × List Pz.S32 × Int) (cs : List Value) : Prop :=
  ∃ A c A5 c5, cs = [.slice A x.1.1.length c, .int .i64 x.1.2.1, .int .i64 x.1.2.2.1, .int .i64 x.1.2.2.2.1, .int .i64 x.1.2.2.2.2, .slice A5 x.2.1.length c5, .int .i64 x.2.2] ∧
    (x.1.1.length ≤ c ∧ Kd.C Kd.string w A x.1.1.length x.1.1) ∧ x.2.1.length ≤ c5 ∧ Kd.C Pz.k32 w A5 x.2.1.length x.2.1
theorem open29 : Opens Tryd.prog 29 K29 (fun x => SizeOk x.1.1 ∧ (In64 x.1.2.1 ∧ In64 x.1.2.2.1 ∧ In64 x.1.2.2.2.1 ∧ In64 x.1.2.2.2.2) ∧ PatchesOk x.2.1 ∧ In64 x.2.2) := by
  intro H enc w held fuel cs x h hw
  obtain ⟨hl, hf⟩ := open_fields Tryd.underlying29 h hw
  match cs, hl with
  | [v0, v1, v2, v3, v4, v5, v6], _ =>
    obtain ⟨x0, k0, o0⟩ := hf 0 0 5 _ rfl rfl c26 open26
    obtain ⟨x1, k1, o1⟩ := hf 1 5 1 _ rfl rfl c27 open27
    obtain ⟨x2, k2, o2⟩ := hf 2 6 1 _ rfl rfl c3 (Opens.int Tryd.underlying3)
    obtain ⟨A0, c0, e0, l0, r0⟩ := k0
    obtain ⟨A1, c1, e1, l1, r1⟩ := k1
    have e0' : [v0, v1, v2, v3, v4] = _ := e0
    have e1' : [v5] = _ := e1
    have e2 : [v6] = [.int .i64 x2] := k2
    cases e0'; cases e1'; cases e2
    exact ⟨(x0, x1, x2), ⟨A0, c0, A1, c1, rfl, ⟨l0, r0⟩, l1, r1⟩, o0.1, o0.2, o1, .of o2⟩
end Go.Proofs.YtfiapekpeiapbaaDoor.F
