import Derived.Test.YtdoebjnfnmfnnaaDoorRowD
import Derived.Test.YtdoebjnfnmfnnaaDoorMkT
import Derived.Test.YtdoebjnfnmfnnaaDoorMex0
/-! quilllaw6.Script opened. -/
namespace Go.Proofs.YtdoebjnfnmfnnaaDoor.F
open Go.RowKit Go.ChangeShapes Go.WideShapes Go.ChangeAt Go.Lib Go.Shelf
open Go.Proofs.YtdoebjnfnmfnnaaDoorW.PrintWords Go.Proofs.YtdoebjnfnmfnnaaDoorW.PrintLast
set_option maxRecDepth 100000
theorem Me_openP : Opens Tryd.prog 80 Me.k80.K (fun x => x.f2.size ≤ reachBytes) := by
  intro H enc w held fuel cs x h hw
  obtain ⟨hl, hf⟩ := open_fields Tryd.underlying80 h hw
  match cs, hl with
  | [v0, v1, v2], _ =>
    obtain ⟨x0, k0, o0⟩ := hf 0 0 1 _ rfl rfl cI (Opens.int Tryd.underlying3)
    obtain ⟨x1, k1, o1⟩ := hf 1 1 1 _ rfl rfl cI (Opens.int Tryd.underlying3)
    obtain ⟨x2, k2, o2⟩ := hf 2 2 1 _ rfl rfl cS (Opens.string Tryd.underlying9)
    have e0 : [v0] = [.int .i64 x0] := k0
    have e1 : [v1] = [.int .i64 x1] := k1
    have e2 : [v2] = [.string x2] := k2
    cases e0; cases e1; cases e2
    exact ⟨⟨x0, x1, x2⟩, Me.k80_mk w ⟨x0, x1, x2⟩, o2⟩
theorem Me_openM : Opens Tryd.prog 150 Fa.k150.K (fun x => In64 x.f0 ∧ In64 x.f1) := by
  intro H enc w held fuel cs x h hw
  obtain ⟨hl, hf⟩ := open_fields Tryd.underlying150 h hw
  match cs, hl with
  | [v0, v1], _ =>
    obtain ⟨x0, k0, o0⟩ := hf 0 0 1 _ rfl rfl cI (Opens.int Tryd.underlying3)
    obtain ⟨x1, k1, o1⟩ := hf 1 1 1 _ rfl rfl cI (Opens.int Tryd.underlying3)
    have e0 : [v0] = [.int .i64 x0] := k0
    have e1 : [v1] = [.int .i64 x1] := k1
    cases e0; cases e1
    exact ⟨⟨x0, x1⟩, Fa.k150_mk w ⟨x0, x1⟩, .of o0, .of o1⟩
theorem Me_openA : Opens Tryd.prog 82 Me.k82.K (fun x => (In64 x.f0 ∧ In64 x.f1 ∧ In64 x.f2) ∧ x.f3.f2.size ≤ reachBytes) := by
  intro H enc w held fuel cs x h hw
  obtain ⟨hl, hf⟩ := open_fields Tryd.underlying82 h hw
  match cs, hl with
  | [v0, v1, v2, v3, v4, v5], _ =>
    obtain ⟨x0, k0, o0⟩ := hf 0 0 1 _ rfl rfl cI (Opens.int Tryd.underlying3)
    obtain ⟨x1, k1, o1⟩ := hf 1 1 1 _ rfl rfl cI (Opens.int Tryd.underlying3)
    obtain ⟨x2, k2, o2⟩ := hf 2 2 1 _ rfl rfl cI (Opens.int Tryd.underlying3)
    obtain ⟨x3, k3, o3⟩ := hf 3 3 3 _ rfl rfl (show Tryd.prog.cellsOf 80 = 3 from by kernel_rfl) Me_openP
    have e0 : [v0] = [.int .i64 x0] := k0
    have e1 : [v1] = [.int .i64 x1] := k1
    have e2 : [v2] = [.int .i64 x2] := k2
    have e3 : [v3, v4, v5] = _ := Me.k80_open k3
    cases e0; cases e1; cases e2; cases e3
    exact ⟨⟨x0, x1, x2, x3⟩, Me.k82_mk w ⟨x0, x1, x2, x3⟩, ⟨.of o0, .of o1, .of o2⟩, o3⟩
def Me_MarksOk (l : List SM) : Prop := (∀ x ∈ l, In64 x.f0 ∧ In64 x.f1) ∧ l.length ≤ 140737488355327
theorem Me_openMs : Opens Tryd.prog 73 (Kd.slice 150 Fa.k150).K Me_MarksOk := by
  intro H enc w held fuel cs x h hw
  obtain ⟨l, hk, h1, h2, _⟩ := Opens.slice 150 (d := Fa.k150) Tryd.underlying73 (by kernel_rfl) Me_openM H enc w held fuel cs x h hw
  rw [show Tryd.prog.bytesOf 150 = 16 from by kernel_rfl] at h2
  have := reach_le
  exact ⟨l, hk, h1, by omega⟩
def Me_ActsOk (l : List Me.S82) : Prop := (∀ x ∈ l, (In64 x.f0 ∧ In64 x.f1 ∧ In64 x.f2) ∧ x.f3.f2.size ≤ 140737488355327) ∧ l.length ≤ 140737488355327
theorem Me_openAs : Opens Tryd.prog 74 (Kd.slice 82 Me.k82).K Me_ActsOk := by
  intro H enc w held fuel cs x h hw
  obtain ⟨l, hk, h1, h2, _⟩ := Opens.slice 82 (d := Me.k82) Tryd.underlying74 (by kernel_rfl) Me_openA H enc w held fuel cs x h hw
  rw [show Tryd.prog.bytesOf 82 = 56 from by kernel_rfl] at h2
  have := reach_le
  exact ⟨l, hk, fun s hs => ⟨(h1 s hs).1, Nat.le_trans (h1 s hs).2 reach_le⟩, by omega⟩
/-- quilllaw6.Script's two cells. -/
def Me_K (w : World) (x : List SM × List Me.S82) (cs : List Value) : Prop :=
  ∃ A c A1 c1, cs = [.slice A x.1.length c, .slice A1 x.2.length c1] ∧ (x.1.length ≤ c ∧ Kd.C Fa.k150 w A x.1.length x.1) ∧ x.2.length ≤ c1 ∧ Kd.C Me.k82 w A1 x.2.length x.2
theorem Me_open : Opens Tryd.prog 76 Me_K (fun x => Me_MarksOk x.1 ∧ Me_ActsOk x.2) := by
  intro H enc w held fuel cs x h hw
  obtain ⟨hl, hf⟩ := open_fields Tryd.underlying76 h hw
  match cs, hl with
  | [v0, v1], _ =>
    obtain ⟨x0, k0, o0⟩ := hf 0 0 1 _ rfl rfl (show Tryd.prog.cellsOf 73 = 1 from by kernel_rfl) Me_openMs
    obtain ⟨x1, k1, o1⟩ := hf 1 1 1 _ rfl rfl (show Tryd.prog.cellsOf 74 = 1 from by kernel_rfl) Me_openAs
    obtain ⟨A0, c0, e0, l0, r0⟩ := k0
    obtain ⟨A1, c1, e1, l1, r1⟩ := k1
    have e0' : [v0] = _ := e0
    have e1' : [v1] = _ := e1
    cases e0'; cases e1'
    exact ⟨(x0, x1), ⟨A0, c0, A1, c1, rfl, ⟨l0, r0⟩, l1, r1⟩, o0, o1⟩
end Go.Proofs.YtdoebjnfnmfnnaaDoor.F
