import Derived.Test.YtdoebjnfnmfnnaaDoorRowD
import Derived.Test.YtdoebjnfnmfnnaaDoorRsx0
/-! quilllaw9.Script opened. -/
namespace Go.Proofs.YtdoebjnfnmfnnaaDoor.F
open Go.RowKit Go.ChangeShapes Go.WideShapes Go.ChangeAt Go.Lib Go.Shelf
open Go.Proofs.YtdoebjnfnmfnnaaDoorW.PrintWords Go.Proofs.YtdoebjnfnmfnnaaDoorW.PrintLast
set_option maxRecDepth 100000
theorem Rs_openR : Opens Tryd.prog 113 Ra.k113.K (fun x => In64 x.f0 ∧ x.f1.size ≤ reachBytes) := by
  intro H enc w held fuel cs x h hw
  obtain ⟨hl, hf⟩ := open_fields Tryd.underlying113 h hw
  match cs, hl with
  | [v0, v1, v2], _ =>
    obtain ⟨x0, k0, o0⟩ := hf 0 0 1 _ rfl rfl cI (Opens.int Tryd.underlying3)
    obtain ⟨x1, k1, o1⟩ := hf 1 1 1 _ rfl rfl cS (Opens.string Tryd.underlying9)
    obtain ⟨x2, k2, o2⟩ := hf 2 2 1 _ rfl rfl (show Tryd.prog.cellsOf 4 = 1 from by kernel_rfl) (Opens.bool Tryd.underlying4)
    have e0 : [v0] = [.int .i64 x0] := k0
    have e1 : [v1] = [.string x1] := k1
    have e2 : [v2] = [.bool x2] := k2
    cases e0; cases e1; cases e2
    exact ⟨⟨x0, x1, x2⟩, Ra.k113_mk w ⟨x0, x1, x2⟩, .of o0, o1⟩
theorem Rs_openA : Opens Tryd.prog 123 Rs.k123.K (fun x => (In64 x.f0 ∧ In64 x.f1) ∧ x.f2.size ≤ reachBytes) := by
  intro H enc w held fuel cs x h hw
  obtain ⟨hl, hf⟩ := open_fields Tryd.underlying123 h hw
  match cs, hl with
  | [v0, v1, v2, v3], _ =>
    obtain ⟨x0, k0, o0⟩ := hf 0 0 1 _ rfl rfl cI (Opens.int Tryd.underlying3)
    obtain ⟨x1, k1, o1⟩ := hf 1 1 1 _ rfl rfl cI (Opens.int Tryd.underlying3)
    obtain ⟨x2, k2, o2⟩ := hf 2 2 1 _ rfl rfl cS (Opens.string Tryd.underlying9)
    obtain ⟨x3, k3, o3⟩ := hf 3 3 1 _ rfl rfl (show Tryd.prog.cellsOf 4 = 1 from by kernel_rfl) (Opens.bool Tryd.underlying4)
    have e0 : [v0] = [.int .i64 x0] := k0
    have e1 : [v1] = [.int .i64 x1] := k1
    have e2 : [v2] = [.string x2] := k2
    have e3 : [v3] = [.bool x3] := k3
    cases e0; cases e1; cases e2; cases e3
    exact ⟨⟨x0, x1, x2, x3⟩, Rs.k123_mk w ⟨x0, x1, x2, x3⟩, ⟨.of o0, .of o1⟩, o2⟩
def Rs_RegsOk (l : List SR) : Prop := (∀ x ∈ l, In64 x.f0 ∧ x.f1.size ≤ 140737488355327) ∧ l.length ≤ 140737488355327
theorem Rs_openRs : Opens Tryd.prog 105 (Kd.slice 113 Ra.k113).K Rs_RegsOk := by
  intro H enc w held fuel cs x h hw
  obtain ⟨l, hk, h1, h2, _⟩ := Opens.slice 113 (d := Ra.k113) Tryd.underlying105 (by kernel_rfl) Rs_openR H enc w held fuel cs x h hw
  rw [show Tryd.prog.bytesOf 113 = 32 from by kernel_rfl] at h2
  have := reach_le
  exact ⟨l, hk, fun s hs => ⟨(h1 s hs).1, Nat.le_trans (h1 s hs).2 reach_le⟩, by omega⟩
def Rs_ActsOk (l : List Rs.S123) : Prop := (∀ x ∈ l, (In64 x.f0 ∧ In64 x.f1) ∧ x.f2.size ≤ 140737488355327) ∧ l.length ≤ 140737488355327
theorem Rs_openAs : Opens Tryd.prog 106 (Kd.slice 123 Rs.k123).K Rs_ActsOk := by
  intro H enc w held fuel cs x h hw
  obtain ⟨l, hk, h1, h2, _⟩ := Opens.slice 123 (d := Rs.k123) Tryd.underlying106 (by kernel_rfl) Rs_openA H enc w held fuel cs x h hw
  rw [show Tryd.prog.bytesOf 123 = 40 from by kernel_rfl] at h2
  have := reach_le
  exact ⟨l, hk, fun s hs => ⟨(h1 s hs).1, Nat.le_trans (h1 s hs).2 reach_le⟩, by omega⟩
/-- quilllaw9.Script's two cells. -/
def Rs_K (w : World) (x : List SR × List Rs.S123) (cs : List Value) : Prop :=
  ∃ A c A1 c1, cs = [.slice A x.1.length c, .slice A1 x.2.length c1] ∧ (x.1.length ≤ c ∧ Kd.C Ra.k113 w A x.1.length x.1) ∧ x.2.length ≤ c1 ∧ Kd.C Rs.k123 w A1 x.2.length x.2
theorem Rs_open : Opens Tryd.prog 108 Rs_K (fun x => Rs_RegsOk x.1 ∧ Rs_ActsOk x.2) := by
  intro H enc w held fuel cs x h hw
  obtain ⟨hl, hf⟩ := open_fields Tryd.underlying108 h hw
  match cs, hl with
  | [v0, v1], _ =>
    obtain ⟨x0, k0, o0⟩ := hf 0 0 1 _ rfl rfl (show Tryd.prog.cellsOf 105 = 1 from by kernel_rfl) Rs_openRs
    obtain ⟨x1, k1, o1⟩ := hf 1 1 1 _ rfl rfl (show Tryd.prog.cellsOf 106 = 1 from by kernel_rfl) Rs_openAs
    obtain ⟨A0, c0, e0, l0, r0⟩ := k0
    obtain ⟨A1, c1, e1, l1, r1⟩ := k1
    have e0' : [v0] = _ := e0
    have e1' : [v1] = _ := e1
    cases e0'; cases e1'
    exact ⟨(x0, x1), ⟨A0, c0, A1, c1, rfl, ⟨l0, r0⟩, l1, r1⟩, o0, o1⟩
end Go.Proofs.YtdoebjnfnmfnnaaDoor.F
