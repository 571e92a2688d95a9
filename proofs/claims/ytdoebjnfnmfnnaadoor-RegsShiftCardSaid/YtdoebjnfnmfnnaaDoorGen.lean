/- Plain: what copy does at elements of several cells; rows with an element put in. -/
import Derived.Test.YtdoebjnfnmfnnaaDoorProg
import Derived.WalkKit
import Derived.Shelf.Abstract
import Derived.Shelf.RegionOpenPlain
import Derived.Deep.LoopGhost
import Derived.Lib.Walk
import Derived.Lib.SliceRun
import Derived.Lib.AppendZerosOnto
import Derived.Lib.Overlaps
import Derived.Laws.Externs
import Derived.Laws.CopyRow
import Derived.Laws.NewBlocks
import Derived.Laws.IdiomCopy
set_option linter.unusedVariables false
set_option linter.unusedSimpArgs false
namespace Go.Proofs.YtdoebjnfnmfnnaaDoor.F
open Go.RowKit Go.Lib Go.Shelf

theorem run_copy_k {P : Program} (w : World) (dT sT ty elem : TypeId) (g o dLen dCap : Nat) (a : Addr) (sLen sCap k : Nat) (cur : Array Value) (t : TypeId) (cs : List Value)
    (hu : P.underlying dT = some (.slice elem)) (hs : (P.info? elem).map (·.size) = some k)
    (hg : w.heap[g]? = some (.cells cur t (0, 0))) (hn : cs.length = Nat.min sLen dLen * k)
    (hsrc : ∀ j v, cs[j]? = some v → w.cell? (a.add j) = some v) (hfit : o + cs.length ≤ cur.size) (h1 : ∀ v ∈ cs, v.oneCell' = true) :
    (Builtin.copy_ #[dT, sT] ty #[.slice (some ⟨g, o, none⟩) dLen dCap, .slice (some a) sLen sCap]).run P w =
      .ok (goInt (Nat.min sLen dLen)) (w.setRow g (cur.toList.take o ++ cs ++ cur.toList.drop (o + cs.length)).toArray) := by
  have hl := run_loadCells_list (P := P) w a cs hsrc
  have hst := run_storeCells_at P g o t cs 0 cur w hg (by simpa using hfit) h1
  cases hq : P.info? elem with
  | none => simp [hq] at hs
  | some i =>
    have hi : i.size = k := by simpa [hq] using hs
    simp [Builtin.copy_, run_underlying hu, Builtin.lenOf, Builtin.firstCells, sizeOf, typeInfo, hq, hi, ← hn, hl, hst]

theorem wpList_copy_k {P : Program} (w : World) {ops : Array Oper} {rest : List Oper} {o : Oper} {a : Act} {Q : Exit → Act → World → Prop} (hgd : o.guard = none) (d s : Operand) (t t' : TypeId)
    (ho : o.op = .call { callee := .builtin .copy, args := #[d, s], argTypes := #[t, t'] }) (v u : Value) (hd : a.eval d = v) (hs : a.eval s = u) {v' : Value} {w' : World}
    (hr : (Builtin.copy_ #[t, t'] o.type #[v, u]).run P w = .ok v' w') (h : wpList P ops Q rest (a.put o.dst v') w') : wpList P ops Q (o :: rest) a w :=
  wpList_plain hgd fun _ hK => by
    unfold Oper.wp execOp
    simp only [ho, resolve, invoke, builtin, Sem.run_bind, Sem.run_pure, Result.andThen_ok, List.map_toArray, List.map_cons, List.map_nil, hd, hs, hr]
    exact hK _ _ h
theorem step_copy_k {P : Program} {ops : Array Oper} {o : Oper} {a : Act} {w : World} {K : Act → World → Prop} {Q : Exit → Act → World → Prop} {E : Prop}
    (hg : o.guard = none) (d x : Operand) (dT sT : TypeId) (hop : o.op = Op.call { callee := Callee.builtin Builtin.copy, args := #[d, x], argTypes := #[dT, sT] })
    (v u : Value) (hd : a.eval d = v) (hx : a.eval x = u) {v' : Value} {w' : World} (hr : (Builtin.copy_ #[dT, sT] o.type #[v, u]).run P w = .ok v' w') (hK : K (a.put o.dst v') w') :
    if Region.wanted o (yielded ops a.tmps) = true then Oper.wp P o a w K Q else E := by
  have hw : Region.wanted o (yielded ops a.tmps) = true := by simp [Region.wanted, hg]
  rw [if_pos hw]
  unfold Oper.wp
  simp [execOp, hop, resolve, invoke, builtin, hd, hx, hr, Result.andThen]
  exact hK

theorem ins_fact {α : Type} (cur xs vs : List α) (A B k : Nat) (hx : cur.take B = xs) (hA : A ≤ B) (hB : B + k ≤ cur.length) (hv : vs.length = k) (c1 : List α)
    (hc : c1 = cur.take (A + k) ++ xs.drop A ++ cur.drop (A + k + (xs.drop A).length)) :
    (c1.take A ++ vs ++ c1.drop (A + vs.length)).take (B + k) = xs.take A ++ vs ++ xs.drop A := by
  have hxl : xs.length = B := by rw [← hx, List.length_take]; omega
  have h1 : (cur.take (A + k)).length = A + k := by rw [List.length_take]; omega
  have e1 : c1.take A = xs.take A := by
    rw [hc, List.append_assoc, List.take_append_of_le_length (by omega), List.take_take, ← hx, List.take_take]
    congr 1
    omega
  have e2 : c1.drop (A + vs.length) = xs.drop A ++ cur.drop (A + k + (xs.drop A).length) := by
    rw [hc, hv, List.append_assoc]
    exact List.drop_left' h1
  rw [e1, e2, ← List.append_assoc]
  exact List.take_left' (by simp only [List.length_append, List.length_take, List.length_drop]; omega)
theorem grow_fact {α : Type} (row xs vs : List α) (A B k : Nat) (hx : row.take A = xs.take A) (hxl : xs.length = B) (hA : A ≤ B) (hB : B + k ≤ row.length) (hv : vs.length = k) (c1 : List α)
    (hc : c1 = row.take A ++ vs ++ row.drop (A + vs.length)) :
    (c1.take (A + k) ++ xs.drop A ++ c1.drop (A + k + (xs.drop A).length)).take (B + k) = xs.take A ++ vs ++ xs.drop A := by
  have e1 : c1.take (A + k) = xs.take A ++ vs := by
    rw [hc, hx]
    exact List.take_left' (by simp only [List.length_append, List.length_take]; omega)
  rw [e1]
  exact List.take_left' (by simp only [List.length_append, List.length_take, List.length_drop]; omega)
theorem news_blk {w : World} {vb : Nat} {vs : List Value} {t : TypeId} (h : w.heap[vb]? = some (.cells vs.toArray t (0, 0))) : ∀ j u, vs[j]? = some u → w.cell? ((⟨vb, 0, none⟩ : Addr).add j) = some u := by
  intro j u hj
  rw [Addr.add_lit]
  simp [World.cell?, h, hj]
theorem cell_row {w : World} {g : Nat} {cur : Array Value} {t : TypeId} (h : w.heap[g]? = some (.cells cur t (0, 0))) (j : Nat) : w.cell? ⟨g, j, none⟩ = cur[j]? := by
  simp [World.cell?, h]
theorem cell_row_add {w : World} {g : Nat} {cur : Array Value} {t : TypeId} (h : w.heap[g]? = some (.cells cur t (0, 0))) (o j : Nat) : w.cell? ((⟨g, o, none⟩ : Addr).add j) = cur[o + j]? := by
  rw [Addr.add_lit]; exact cell_row h _
end Go.Proofs.YtdoebjnfnmfnnaaDoor.F
