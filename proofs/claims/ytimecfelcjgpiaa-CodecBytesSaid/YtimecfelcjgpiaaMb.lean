/- []byte(s): a row with a mark behind it; its contract. -/
import Derived.Test.YtimecfelcjgpiaaTake
import Derived.Lib.ConvBytes
import Derived.Laws.BytesArg
set_option linter.unusedVariables false
set_option linter.unusedSimpArgs false
namespace Go.Proofs.Ytimecfelcjgpiaa.F
open Go.RowKit Go.Proofs.YtimecfelcjgpiaaW.PrintWords Go.Proofs.YtimecfelcjgpiaaW.PrintLast Go.Proofs.YtimecfelcjgpiaaW.PrintMore Go.Proofs.Ytimecfelcjgpiaa.Q

/-- A conversion comes to a value. -/
def ConvTo (P : Program) (src dst : TypeId) (v : Value) (w : World) (R : Ending → World → Prop) : Prop := ∃ v' w', (convert src dst v).run P w = .ok v' w' ∧ R (.returned v') w'
theorem ConvTo.mono {P : Program} {src dst : TypeId} {v : Value} {w : World} {R R' : Ending → World → Prop} (h : ConvTo P src dst v w R) (hr : ∀ e w', R e w' → R' e w') : ConvTo P src dst v w R' := by
  obtain ⟨v', w', h1, h2⟩ := h
  exact ⟨v', w', h1, hr _ _ h2⟩
theorem conv_ {P : Program} {ops : Array Oper} {Q : Exit → Act → World → Prop} {rest : List Oper} {oi : Oper} {a : Act} {w : World} (N : Option Tmp) (hd : oi.dst = N) (hg : oi.guard = none) {src dst : TypeId} {x : Operand} (v : Value)
    (hop : oi.op = .convert src dst x) (hx : a.eval x = v) (h : ConvTo P src dst v w fun e w' => ∃ v, e = .returned v ∧ wpList P ops Q rest (a.put N v) w') : wpList P ops Q (oi :: rest) a w := by
  obtain ⟨v', w', h1, v2, h2, h3⟩ := h
  obtain rfl : v' = v2 := by injection h2
  refine wpList_plain hg fun K hK => ?_
  have hrun : (execOp a.eval oi).run P w = .ok (.value v') w' := by
    unfold execOp
    simp [hop, hx, h1]
  unfold Oper.wp
  rw [hrun, Oper.upon_value]
  subst hd
  exact hK _ _ h3

/-- A row of bytes that the call made; a mark may stand behind it. -/
def MB (w : World) (base : Nat) (v : Value) (xs : List Int) : Prop :=
  ∃ (g cap : Nat) (cells : Array Value) (lo hi : Nat), v = .slice (some ⟨g, 0, none⟩) xs.length cap ∧ base ≤ g ∧ xs.length ≤ cap ∧ xs.length ≤ 9223372036854775807 ∧ w.heap[g]? = some (.cells cells 5 (lo, hi)) ∧ xs.length ≤ lo ∧
    ∀ j, j < xs.length → cells[j]? = some (.int .u8 (xs.getD j 0))
theorem MB_lower {w : World} {b b' : Nat} {v : Value} {xs : List Int} (h : MB w b v xs) (hb : b' ≤ b) : MB w b' v xs := by
  obtain ⟨g, cap, cells, lo, hi, h1, h2, h3⟩ := h
  exact ⟨g, cap, cells, lo, hi, h1, Nat.le_trans hb h2, h3⟩
theorem MB_drew {w : World} {b : Nat} {v : Value} {xs : List Int} (h : MB w b v xs) : MB w.drew b v xs := h
theorem MB_slice {w : World} {b : Nat} {v : Value} {xs : List Int} (h : MB w b v xs) : ∃ A c, v = .slice A xs.length c := by
  obtain ⟨g, cap, cells, lo, hi, h1, _⟩ := h
  exact ⟨_, _, h1⟩
theorem mb_cell {w : World} {g j : Nat} {cells : Array Value} {t : TypeId} {fr : Nat × Nat} (h : w.heap[g]? = some (.cells cells t fr)) : w.cell? ⟨g, j, none⟩ = cells[j]? := by
  unfold World.cell?
  simp [h]
theorem MB_reads {w : World} {b n c : Nat} {A : Option Addr} {xs : List Int} (h : MB w b (.slice A n c) xs) : n = xs.length ∧ n ≤ c ∧ Kd.C (Kd.int .u8) w A xs.length xs := by
  obtain ⟨g, cap, cells, lo, hi, h1, h2, h3, h4, h5, h6, h7⟩ := h
  injection h1 with h1 h8 h9
  subst h1 h8 h9
  refine ⟨rfl, h3, Kd.C_of_reads (d := (0 : Int)) (h1 := fun _ => rfl) ⟨rfl, h4, fun _ => ⟨_, rfl, fun j hj => ?_⟩⟩⟩
  have ha : (⟨g, 0, none⟩ : Addr).add j = ⟨g, j, none⟩ := by unfold Addr.add; split <;> simp_all
  rw [ha, mb_cell h5]
  exact h7 j hj
theorem MB_form {w : World} {b : Nat} {v : Value} {xs : List Int} (h : MB w b v xs) (_ : 0 < xs.length) : ∃ g cap, v = .slice (some ⟨g, 0, none⟩) xs.length cap ∧ b ≤ g ∧ g < w.heap.size ∧ ∃ cl : Array Value × (Nat × Nat), w.heap[g]? = some (.cells cl.1 5 cl.2) := by
  obtain ⟨g, cap, cells, lo, hi, h1, h2, h3, h4, h5, h6, h7⟩ := h
  exact ⟨g, cap, h1, h2, blk_lt h5, (cells, (lo, hi)), h5⟩
theorem MB_cell {w : World} {b g n cap : Nat} {xs : List Int} (h : MB w b (.slice (some ⟨g, 0, none⟩) n cap) xs) (i : Int) (h0 : 0 ≤ i) (hi : i < n) : w.cell? ⟨g, i.toNat, none⟩ = some (.int .u8 (rd xs i)) ∧ w.frozen? ⟨g, i.toNat, none⟩ = false := by
  obtain ⟨g', cap', cells, lo, hi', h1, h2, h3, h4, h5, h6, h7⟩ := h
  injection h1 with h1 h8 h9
  injection h1 with h1
  injection h1 with h1
  subst h1 h8
  refine ⟨?_, ?_⟩
  · rw [mb_cell h5, h7 i.toNat (by omega)]
    rfl
  · have : ¬ (lo ≤ i.toNat) := by omega
    simp [World.frozen?, h5, this]
theorem MB_put {w : World} {b g n cap : Nat} {xs : List Int} (h : MB w b (.slice (some ⟨g, 0, none⟩) n cap) xs) (i : Int) (x : Int) : MB (w.setCell ⟨g, i.toNat, none⟩ (.int .u8 x)) b (.slice (some ⟨g, 0, none⟩) n cap) (xs.set i.toNat x) := by
  obtain ⟨g', cap', cells, lo, hi', h1, h2, h3, h4, h5, h6, h7⟩ := h
  injection h1 with h1 h8 h9
  injection h1 with h1
  injection h1 with h1
  subst h1 h8 h9
  refine ⟨g, cap, cells.setIfInBounds i.toNat (.int .u8 x), lo, hi', by rw [List.length_set], h2, by rw [List.length_set]; exact h3, by rw [List.length_set]; exact h4, ?_, by rw [List.length_set]; exact h6, fun j hj => ?_⟩
  · have hg := (Array.getElem?_eq_some_iff.1 h5)
    obtain ⟨hlt, he⟩ := hg
    simp [World.setCell, Array.getElem?_modify, h5]
  · rw [List.length_set] at hj
    rw [Array.getElem?_setIfInBounds]
    by_cases e : i.toNat = j
    · subst e
      have hc := h7 i.toNat hj
      obtain ⟨hlt, _⟩ := Array.getElem?_eq_some_iff.1 hc
      rw [if_pos rfl, if_pos hlt]
      simp [List.getD_eq_getElem?_getD, List.getElem?_set, hj]
    · rw [if_neg e, h7 j hj]
      simp [List.getD_eq_getElem?_getD, List.getElem?_set, e]
theorem MB_string {P : Program} {w : World} {b : Nat} {src dst e : TypeId} {v : Value} {xs : List Int} (hs : P.underlying src = some (.slice e)) (he : P.underlying e = some (.int .u8)) (hd : P.underlying dst = some .string) (h : MB w b v xs) : (convert src dst v).run P w = .ok (.string (strOfNums xs)) w := by
  obtain ⟨A, c, rfl⟩ := MB_slice h
  exact Kd.C_string hs he hd (MB_reads h).2.2
theorem MB_ne {w : World} {b g t : Nat} {v : Value} {xs : List Int} {cells : Array Value} (h : MB w b v xs) (hb : w.heap[g]? = some (.cells cells t (0, 0))) (ht : (5 : Nat) ≠ t) : some g ≠ v.ownBlock := by
  obtain ⟨g', cap, cs, lo, hi, rfl, h2, h3, h4, h5, h6, h7⟩ := h
  intro e
  have e' : g = g' := by simpa [Value.ownBlock] using e
  subst e'
  rw [h5] at hb
  injection hb with hb
  injection hb with _ hb
  exact ht hb
theorem R_typesM {α : Type} {d : Kd α} {e base : Nat} {w : World} {ok : Nat → Prop} {v : Value} {xs : List α} (h : d.R e w base ok v xs) {g t : Nat} {cells : Array Value} {fr : Nat × Nat} (hb : w.heap[g]? = some (.cells cells t fr)) (ht : ∀ q, q ∈ e :: d.E → q ≠ t) : d.R e w base (fun k => ok k ∧ k ≠ g) v xs :=
  Kd.R_mono (Kd.R_bound h) (fun k hk => ⟨hk.1, by
    obtain ⟨_, _, _, q, hq, cells', hc⟩ := hk
    rintro rfl
    rw [hc] at hb
    injection hb with hb
    injection hb with _ hb
    exact ht q hq hb⟩)
/-- []byte(s) -/
def cv_9_39.f (a0 : ByteArray) : Option (List Int) := if a0.size ≤ 140737488355328 then some (bts a0) else none
theorem cv_9_39.calls (a0 : ByteArray) (r : List Int) (w : World) (h : cv_9_39.f a0 = some r) :
    ConvTo Try.prog 9 39 (.string a0) w fun e w' => ∃ v0_ : Value, e = .returned v0_ ∧ MB w' w.heap.size v0_ r ∧ Below w.heap.size w w' := by
  unfold cv_9_39.f at h
  by_cases hs : a0.size ≤ 140737488355328
  · rw [if_pos hs] at h
    obtain rfl := Option.some.inj h
    have hrun := print_bytes (P := Try.prog) 9 39 5 Try.underlying9 Try.underlying39 Try.underlying5 a0 w
    refine ⟨_, _, hrun, _, rfl, ?_, bytes_below (Below.refl _ _) (Nat.le_refl _) _ _⟩
    have hcap := grownCap_ge w a0.size 0 5
    refine ⟨w.heap.size, _, _, _, _, by rw [bts_len], Nat.le_refl _, by rw [bts_len]; exact hcap, by rw [bts_len]; omega, Lib.bytesWorld_at_new w 5 a0, ?_, fun j hj => ?_⟩
    · rw [bts_len]
      simp [Lib.bytesCells]
    · rw [bts_len] at hj
      have hc := Lib.bytesWorld_cell w 5 a0 j hj
      rw [mb_cell (Lib.bytesWorld_at_new w 5 a0)] at hc
      rw [hc]
      have e : (bts a0).getD j 0 = ((a0.data.toList.getD j 0).toNat : Int) := by
        have hj' : j < a0.data.toList.length := by simpa using hj
        unfold bts
        simp only [List.getD_eq_getElem?_getD, List.getElem?_map, List.getElem?_eq_getElem hj', Option.map_some, Option.getD_some]
      rw [e]
  · rw [if_neg hs] at h; cases h
end Go.Proofs.Ytimecfelcjgpiaa.F
