-- printed by wip/tools/pr.py out of the translation; Lean checks it
import Derived.Test.YtdoebjnfnmfnnaaDoorProg
import Derived.Below
import Derived.Deep.Draws
import Derived.Deep.AppendLies
import Derived.Maps.AppendAt
import Derived.OwnWalk
import Derived.Laws.BytesArg
import Derived.Laws.MakeOwn
import Derived.Laws.OwnMore
import Derived.Deep.OwnRows
import Derived.Tactics
import Derived.Lib.ConvBytes
import Derived.Laws.Slices
import Derived.WalkKit
import Derived.KernelRfl
import Derived.RowKit3
import Derived.Deep.LoopGhost
import Derived.Deep.QuietTactic
import Derived.BigQuiet
import Derived.WideLaws
import Derived.Deep.DeepCutAuto
import Derived.Deep.CutBlock
import Derived.Deep.RegionHeld3
import Derived.Laws.Rows
import Derived.Lib.AppendStr
import Derived.ArgAppend
import Derived.Laws.IdiomCopy
import Derived.OrdersHeld
import Derived.Laws.BitsLemmas
import Derived.RowKit
import Derived.Test.YtdoebjnfnmfnnaaDoorWWords
import Derived.Test.YtdoebjnfnmfnnaaDoorWLast
import Derived.Test.YtdoebjnfnmfnnaaDoorWTab
import Derived.Test.YtdoebjnfnmfnnaaDoorWFour
import Derived.Test.YtdoebjnfnmfnnaaDoorWQPut
import Derived.Test.YtdoebjnfnmfnnaaDoorWApart
import Derived.Test.YtdoebjnfnmfnnaaDoorWArr
import Derived.Test.YtdoebjnfnmfnnaaDoorWZeros
import Derived.Test.YtdoebjnfnmfnnaaDoorWFoot
import Derived.Test.YtdoebjnfnmfnnaaDoorWKept
import Derived.Test.YtdoebjnfnmfnnaaDoorWShare
import Derived.Test.YtdoebjnfnmfnnaaDoorWN
import Derived.Test.YtdoebjnfnmfnnaaDoorWFootNe
import Derived.Test.YtdoebjnfnmfnnaaDoorWAt
import Derived.Test.YtdoebjnfnmfnnaaDoorWEqStruct
import Derived.Test.YtdoebjnfnmfnnaaDoorWRepsOne
import Derived.Test.YtdoebjnfnmfnnaaDoorWInv
import Derived.Test.YtdoebjnfnmfnnaaDoorWInvWords
import Derived.Test.YtdoebjnfnmfnnaaDoorWGuard
import Derived.Test.YtdoebjnfnmfnnaaDoorWNEv
import Derived.Test.YtdoebjnfnmfnnaaDoorWMore
import Derived.Test.YtdoebjnfnmfnnaaDoorMay
namespace Go.Proofs.YtdoebjnfnmfnnaaDoor.Ra
open Go.Proofs.YtdoebjnfnmfnnaaDoor.F Go.Proofs.YtdoebjnfnmfnnaaDoor.Q Go.RowKit Go.Proofs.YtdoebjnfnmfnnaaDoorW.PrintWords Go.Proofs.YtdoebjnfnmfnnaaDoorW.PrintLast Go.Proofs.YtdoebjnfnmfnnaaDoorW.PrintMore
attribute [local go_sem] max2_int min2_int max_two min_two max_three min_three max_four min_four   -- for this text's walks alone
set_option linter.unusedVariables false
set_option linter.unusedSimpArgs false



def errW : Option Int → Value
  | none => .nilIface
  | some c => .iface 0 (.int .i64 c)
theorem errW_none : errW none = .nilIface := rfl
theorem errW_some (c : Int) : errW (some c) = .iface 0 (.int .i64 c) := rfl

-- the values' own types
/-! #### struct type 113 -/
structure S113 where
  f0 : Int
  f1 : ByteArray
  f2 : Bool
def z113 : S113 := ⟨(0 : Int), (⟨#[]⟩ : ByteArray), false⟩
def k113 : Kd S113 := Kd.iso (Kd.pair (Kd.int .i64) (Kd.pair Kd.string Kd.bool)) (fun x : S113 => (x.f0, x.f1, x.f2))
theorem k113_open {w : World} {x : S113} {cs : List Value} (h : k113.K w x cs) : cs = [.int .i64 x.f0, .string x.f1, .bool x.f2] := by
  obtain ⟨_, _, rfl, rfl, ⟨_, _, rfl, rfl, rfl⟩⟩ := h
  exact rfl
theorem k113_openM {w : World} {base : Nat} {ok : Nat → Prop} {x : S113} {cs : List Value} (h : k113.M w base ok x cs) : cs = [.int .i64 x.f0, .string x.f1, .bool x.f2] := by
  obtain ⟨_, _, rfl, rfl, ⟨_, _, rfl, rfl, rfl⟩⟩ := h
  exact rfl
theorem k113_mk (w : World) (x : S113)  : k113.K w x [.int .i64 x.f0, .string x.f1, .bool x.f2] := ⟨[.int .i64 x.f0], [.string x.f1, .bool x.f2], rfl, rfl, ⟨[.string x.f1], [.bool x.f2], rfl, rfl, rfl⟩⟩
theorem k113_mkM (w : World) (base : Nat) (ok : Nat → Prop) (x : S113)  : k113.M w base ok x [.int .i64 x.f0, .string x.f1, .bool x.f2] := ⟨[.int .i64 x.f0], [.string x.f1, .bool x.f2], rfl, rfl, ⟨[.string x.f1], [.bool x.f2], rfl, rfl, rfl⟩⟩
def rd_T113 (xs : List S113) (i : Int) : S113 := xs.getD i.toNat z113
theorem at_T113 {w : World} {A : Option Addr} {n : Nat} {xs : List S113} (h : Kd.C k113 w A n xs) (i : Int) (h0 : 0 ≤ i) (h1 : i < n) : ∃ ad , A = some ad ∧ w.cell? (ad.add (i.toNat * 3)) = some (.int .i64 (rd_T113 xs i).f0) ∧ w.cell? ⟨(ad.add (i.toNat * 3)).block, (ad.add (i.toNat * 3)).off + 1, none⟩ = some (.string (rd_T113 xs i).f1) ∧ w.cell? ⟨(ad.add (i.toNat * 3)).block, (ad.add (i.toNat * 3)).off + 2, none⟩ = some (.bool (rd_T113 xs i).f2) := by
  obtain ⟨ad, c, e, _, hK, hc0⟩ := Kd.C_get h z113 i h0 h1
  have hc : ∀ j u, c[j]? = some u → w.cell? (ad.add (i.toNat * 3 + j)) = some u := hc0
  obtain rfl := k113_open hK
  exact ⟨ad, e, hc 0 _ rfl, by rw [← add_field _ _ 1 (by omega)]; exact hc 1 _ rfl, by rw [← add_field _ _ 2 (by omega)]; exact hc 2 _ rfl⟩

end Go.Proofs.YtdoebjnfnmfnnaaDoor.Ra
