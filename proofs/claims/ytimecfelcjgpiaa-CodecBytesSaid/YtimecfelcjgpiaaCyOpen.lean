import Derived.Test.YtimecfelcjgpiaaOpens
import Derived.Test.YtimecfelcjgpiaaCyx0
/-! quilllaw25.Ask opened. -/
namespace Go.Proofs.Ytimecfelcjgpiaa.F
open Go.RowKit Go.ChangeShapes Go.WideShapes Go.ChangeAt Go.Lib
open Go.Proofs.YtimecfelcjgpiaaW.PrintWords Go.Proofs.YtimecfelcjgpiaaW.PrintLast
set_option maxRecDepth 100000
theorem open_strs : Opens Try.prog 23 (Kd.slice 9 Kd.string).K SizeOk := by
  intro H enc w held fuel cs x h hw
  obtain ⟨l, hk, h1, h2, _⟩ := Opens.slice 9 (d := Kd.string) Try.underlying23 c9 (Opens.string Try.underlying9) H enc w held fuel cs x h hw
  rw [show Try.prog.bytesOf 9 = 16 from by kernel_rfl] at h2
  have := reach_le
  exact ⟨l, hk, fun s hs => Nat.le_trans (h1 s hs) reach_le, by omega⟩
theorem open_ints : Opens Try.prog 30 (Kd.slice 3 (Kd.int .i64)).K (fun l => (∀ n ∈ l, In64 n) ∧ l.length ≤ 140737488355327) := by
  intro H enc w held fuel cs x h hw
  obtain ⟨l, hk, h1, h2, _⟩ := Opens.slice 3 (d := Kd.int .i64) Try.underlying30 c3 (Opens.int Try.underlying3) H enc w held fuel cs x h hw
  rw [show Try.prog.bytesOf 3 = 8 from by kernel_rfl] at h2
  have := reach_le
  exact ⟨l, hk, fun n hn => .of (h1 n hn), by omega⟩
theorem open_id : Opens Try.prog 29 Cy.k29.K (fun x => In64 x.f0 ∧ In64 x.f1) := by
  intro H enc w held fuel cs x h hw
  obtain ⟨hl, hf⟩ := open_fields Try.underlying29 h hw
  match cs, hl with
  | [v0, v1], _ =>
    obtain ⟨x0, k0, o0⟩ := hf 0 0 1 _ rfl rfl c3 (Opens.int Try.underlying3)
    obtain ⟨x1, k1, o1⟩ := hf 1 1 1 _ rfl rfl c3 (Opens.int Try.underlying3)
    have e0 : [v0] = [.int .i64 x0] := k0
    have e1 : [v1] = [.int .i64 x1] := k1
    cases e0; cases e1
    exact ⟨⟨x0, x1⟩, Cy.k29_mk w ⟨x0, x1⟩, .of o0, .of o1⟩
/-- An op's size. -/
def OpOk (x : Cy.S32) : Prop := x.f6.length ≤ 140737488355327
theorem open_op : Opens Try.prog 32 Cy.k32.K OpOk := by
  intro H enc w held fuel cs x h hw
  obtain ⟨hl, hf⟩ := open_fields Try.underlying32 h hw
  match cs, hl with
  | [v0, v1, v2, v3, v4, v5, v6, v7, v8], _ =>
    obtain ⟨x0, k0, o0⟩ := hf 0 0 1 _ rfl rfl c3 (Opens.int Try.underlying3)
    obtain ⟨x1, k1, o1⟩ := hf 1 1 2 _ rfl rfl (show Try.prog.cellsOf 29 = 2 from by kernel_rfl) open_id
    obtain ⟨x2, k2, o2⟩ := hf 2 3 2 _ rfl rfl (show Try.prog.cellsOf 29 = 2 from by kernel_rfl) open_id
    obtain ⟨x3, k3, o3⟩ := hf 3 5 1 _ rfl rfl c3 (Opens.int Try.underlying3)
    obtain ⟨x4, k4, o4⟩ := hf 4 6 1 _ rfl rfl c3 (Opens.int Try.underlying3)
    obtain ⟨x5, k5, o5⟩ := hf 5 7 1 _ rfl rfl c3 (Opens.int Try.underlying3)
    obtain ⟨x6, k6, o6⟩ := hf 6 8 1 _ rfl rfl (show Try.prog.cellsOf 30 = 1 from by kernel_rfl) open_ints
    obtain ⟨A8, c8, e8, l8, r8⟩ := k6
    have e0 : [v0] = [.int .i64 x0] := k0
    have e1 : [v1, v2] = _ := Cy.k29_open k1
    have e2 : [v3, v4] = _ := Cy.k29_open k2
    have e3 : [v5] = [.int .i64 x3] := k3
    have e4 : [v6] = [.int .i64 x4] := k4
    have e5 : [v7] = [.int .i64 x5] := k5
    have e8' : [v8] = _ := e8
    cases e0; cases e1; cases e2; cases e3; cases e4; cases e5; cases e8'
    exact ⟨⟨x0, x1, x2, x3, x4, x5, x6⟩, Cy.k32_mk w ⟨x0, x1, x2, x3, x4, x5, x6⟩ l8 r8, o6.2⟩
def OpsOk (l : List Cy.S32) : Prop := (∀ x ∈ l, OpOk x) ∧ l.length ≤ 140737488355327
theorem open_ops : Opens Try.prog 22 (Kd.slice 32 Cy.k32).K OpsOk := by
  intro H enc w held fuel cs x h hw
  obtain ⟨l, hk, h1, h2, _⟩ := Opens.slice 32 (d := Cy.k32) Try.underlying22 (by kernel_rfl) open_op H enc w held fuel cs x h hw
  rw [show Try.prog.bytesOf 32 = 88 from by kernel_rfl] at h2
  have := reach_le
  exact ⟨l, hk, h1, by omega⟩
/-- quilllaw25.Ask's two cells. -/
def K25 (w : World) (x : List Cy.S32 × List ByteArray) (cs : List Value) : Prop :=
  ∃ A c A1 c1, cs = [.slice A x.1.length c, .slice A1 x.2.length c1] ∧ (x.1.length ≤ c ∧ Kd.C Cy.k32 w A x.1.length x.1) ∧ x.2.length ≤ c1 ∧ Kd.C Kd.string w A1 x.2.length x.2
theorem open25 : Opens Try.prog 25 K25 (fun x => OpsOk x.1 ∧ SizeOk x.2) := by
  intro H enc w held fuel cs x h hw
  obtain ⟨hl, hf⟩ := open_fields Try.underlying25 h hw
  match cs, hl with
  | [v0, v1], _ =>
    obtain ⟨x0, k0, o0⟩ := hf 0 0 1 _ rfl rfl (by kernel_rfl) open_ops
    obtain ⟨x1, k1, o1⟩ := hf 1 1 1 _ rfl rfl (by kernel_rfl) open_strs
    obtain ⟨A0, c0, e0, l0, r0⟩ := k0
    obtain ⟨A1, c1, e1, l1, r1⟩ := k1
    have e0' : [v0] = _ := e0
    have e1' : [v1] = _ := e1
    cases e0'; cases e1'
    exact ⟨(x0, x1), ⟨A0, c0, A1, c1, rfl, ⟨l0, r0⟩, l1, r1⟩, o0, o1⟩
end Go.Proofs.Ytimecfelcjgpiaa.F
