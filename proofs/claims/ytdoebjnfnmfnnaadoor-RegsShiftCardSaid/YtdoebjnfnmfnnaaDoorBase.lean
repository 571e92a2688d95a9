/- Words that the walks of this seat share: strings as runes, and what a conversion comes to. Conditions: none. -/
import Derived.Test.YtdoebjnfnmfnnaaDoorProg
import Derived.Test.YtdoebjnfnmfnnaaDoorWMore
import Derived.Test.YtdoebjnfnmfnnaaDoorWN
import Derived.Test.YtdoebjnfnmfnnaaDoorWInvWords
import Derived.Test.YtdoebjnfnmfnnaaDoorWGuard
import Derived.Test.YtdoebjnfnmfnnaaDoorWAt
import Derived.Test.YtdoebjnfnmfnnaaDoorWNEv
import Derived.Test.YtdoebjnfnmfnnaaDoorRunes
import Derived.Laws.IdiomStrings
import Derived.Laws.Cover4
import Derived.Shelf.Unicode.DecodeSlow
set_option linter.unusedVariables false
set_option linter.unusedSimpArgs false
namespace Go.Proofs.YtdoebjnfnmfnnaaDoor.F
open Go.RowKit Go.Proofs.YtdoebjnfnmfnnaaDoorW.PrintWords Go.Proofs.YtdoebjnfnmfnnaaDoorW.PrintLast Go.Proofs.YtdoebjnfnmfnnaaDoorW.PrintMore Go.Proofs.YtdoebjnfnmfnnaaDoor.Q

/-- A conversion comes to a value. -/
def ConvTo (P : Program) (src dst : TypeId) (v : Value) (w : World) (R : Ending → World → Prop) : Prop := ∃ v' w', (convert src dst v).run P w = .ok v' w' ∧ R (.returned v') w'
theorem ConvTo.mono {P : Program} {src dst : TypeId} {v : Value} {w : World} {R R' : Ending → World → Prop} (h : ConvTo P src dst v w R) (hr : ∀ e w', R e w' → R' e w') : ConvTo P src dst v w R' := by
  obtain ⟨v', w', h1, h2⟩ := h
  exact ⟨v', w', h1, hr _ _ h2⟩
theorem conv_ {P : Program} {ops : Array Oper} {Q : Exit → Act → World → Prop} {rest : List Oper} {oi : Oper} {a : Act} {w : World} (N : Option Tmp) (hd : oi.dst = N) (hg : oi.guard = none) {src dst : TypeId} {x : Operand} (v : Value)
    (hop : oi.op = .convert src dst x) (hx : a.eval x = v) (h : ConvTo P src dst v w fun e w' => ∃ v, e = .returned v ∧ wpList P ops Q rest (a.put N v) w') : wpList P ops Q (oi :: rest) a w := by
  obtain ⟨v', w', h1, v2, h2, h3⟩ := h
  obtain rfl : v' = v2 := by injection h2
  refine wpList_plain hg fun K hK => ?_
  have hrun : (execOp a.eval oi).run P w = .ok (.value v') w' := by
    unfold execOp
    simp [hop, hx, h1]
  unfold Oper.wp
  rw [hrun, Oper.upon_value]
  subst hd
  exact hK _ _ h3

theorem load_runes {P : Program} {w : World} {A : Option Addr} {c : Nat} {xs : List Int} {src dst e : TypeId} (hs : P.underlying src = some (.slice e)) (he : P.underlying e = some (.int .i32)) (hd : P.underlying dst = some .string)
    (h : ReadsInt w .i32 A xs.length xs) : (convert src dst (.slice A xs.length c)).run P w = .ok (.string (runesBytes xs)) w := by
  rcases A with _ | ad
  · have h0 : xs = [] := by
      rcases Nat.eq_zero_or_pos xs.length with h0 | h0
      · exact List.eq_nil_of_length_eq_zero h0
      · obtain ⟨ad, e, _⟩ := h.2.2 h0; cases e
    subst h0
    exact run_convert_runes_nil w src dst e _ _ hs he hd
  · have := run_convert_runes w src dst e ad xs.length c xs (Nat.le_refl _) hs he hd (fun j hj => by
      obtain ⟨ad', e', hc⟩ := h.2.2 (by omega)
      cases e'
      exact hc j hj)
    rwa [List.take_length] at this
theorem C_runes {P : Program} {w : World} {A : Option Addr} {c : Nat} {xs : List Int} {src dst e : TypeId} (hs : P.underlying src = some (.slice e)) (he : P.underlying e = some (.int .i32)) (hd : P.underlying dst = some .string)
    {n : Nat} (h : Kd.C (Kd.int .i32) w A n xs) : (convert src dst (.slice A n c)).run P w = .ok (.string (runesBytes xs)) w := by
  have h' : ReadsInt w .i32 A n xs := Kd.reads_of_C (enc := Value.int .i32) (d := (0 : Int)) (h1 := fun _ => rfl) h
  obtain rfl := h'.1
  exact load_runes hs he hd h'
theorem own_runes {P : Program} {w : World} {base n : Nat} {e' src dst e : TypeId} {v : Value} {xs : List Int} (hs : P.underlying src = some (.slice e)) (he : P.underlying e = some (.int .i32)) (hd : P.underlying dst = some .string)
    (h : w.ownsRow base e' 1 v n (nums .i32 xs)) : (convert src dst v).run P w = .ok (.string (runesBytes xs)) w := by
  obtain ⟨A, c, rfl, hr⟩ := own_reads h
  obtain rfl := hr.1
  exact load_runes hs he hd hr

theorem Q_runes {P : Program} {w : World} {base : Nat} {e' src dst e : TypeId} {v : Value} {xs : List Int} {ok : Nat → Prop} (hs : P.underlying src = some (.slice e)) (he : P.underlying e = some (.int .i32)) (hd : P.underlying dst = some .string)
    (h : Kd.Q (Kd.int .i32) e' w base ok v xs) : (convert src dst v).run P w = .ok (.string (runesBytes xs)) w := by
  obtain ⟨A, c, rfl, _⟩ := Kd.Q_slice h
  exact C_runes hs he hd (Kd.Q_reads' h).2.2

theorem C_runes_n {P : Program} {w : World} {A : Option Addr} {c : Nat} {xs : List Int} {src dst e : TypeId} (hs : P.underlying src = some (.slice e)) (he : P.underlying e = some (.int .i32)) (hd : P.underlying dst = some .string)
    {n : Nat} (h : Kd.C (Kd.int .i32) w A n xs) (m n' : Nat) (hn : n' = n) : (convert src dst (.slice A n' c)).run P (w.drewN m) = .ok (.string (runesBytes xs)) (w.drewN m) :=
  hn ▸ C_runes hs he hd (Kd.C_below h (pw_below_drewN (Below.refl _ _) m))
theorem own_runes_n {P : Program} {w : World} {base n : Nat} {e' src dst e : TypeId} {v : Value} {xs : List Int} (hs : P.underlying src = some (.slice e)) (he : P.underlying e = some (.int .i32)) (hd : P.underlying dst = some .string)
    (h : w.ownsRow base e' 1 v n (nums .i32 xs)) (m : Nat) : (convert src dst v).run P (w.drewN m) = .ok (.string (runesBytes xs)) (w.drewN m) :=
  own_runes hs he hd (own_move h (fun _ _ => rfl))
theorem Q_runes_n {P : Program} {w : World} {base : Nat} {e' src dst e : TypeId} {v : Value} {xs : List Int} {ok : Nat → Prop} (hs : P.underlying src = some (.slice e)) (he : P.underlying e = some (.int .i32)) (hd : P.underlying dst = some .string)
    (h : Kd.Q (Kd.int .i32) e' w base ok v xs) (m : Nat) : (convert src dst v).run P (w.drewN m) = .ok (.string (runesBytes xs)) (w.drewN m) :=
  Q_runes hs he hd (Kd.Q_drewN h m)

/-- utf8's two tables lie as their initialisers lay them; bytealg's length is a number. -/
def TabsOk (w : World) : Prop := Lib.Utf8Tabs 0 1 w ∧ ∃ m, w.cell? ⟨2, 0, none⟩ = some (.int .i64 m)
theorem T_below {w w1 : World} (h : TabsOk w) (hb : Below w.heap.size w w1) : TabsOk w1 := by
  obtain ⟨h1, m, hm⟩ := h
  exact ⟨Utf8Tabs_below h1 hb, m, pw_cell_below hb hm⟩
theorem T_alloc {w : World} (h : TabsOk w) (o : Obj) : TabsOk (w.alloc o) := T_below h (below_alloc (Below.refl _ _) o)
theorem T_drew {w : World} (h : TabsOk w) : TabsOk w.drew := T_below h (below_drew (Below.refl _ _))
theorem T_drewN {w : World} (h : TabsOk w) (n : Nat) : TabsOk (w.drewN n) := T_below h (pw_below_drewN (Below.refl _ _) n)

/-- []rune(s) -/
def cv_9_178.f (a0 : ByteArray) : Option (List Int) := if a0.size ≤ 70368744177664 then some (runes a0.data.toList) else none
theorem cv_9_178.calls (a0 : ByteArray) (r : List Int) (w : World) (h : cv_9_178.f a0 = some r) :
    ConvTo Tryd.prog 9 178 (.string a0) w fun e w' => ∃ v0_ : Value, e = .returned v0_ ∧ Kd.R (Kd.int .i32) 21 w' w.heap.size (fun _ => True) v0_ r ∧ Below w.heap.size w w' := by
  unfold cv_9_178.f at h
  by_cases hs : a0.size ≤ 70368744177664
  · rw [if_pos hs] at h
    obtain rfl := Option.some.inj h
    have hsz := size_runesFrom a0 a0.size 0 #[]
    have hrun := run_runes_of_string (P := Tryd.prog) w 9 178 21 a0 Tryd.underlying9 Tryd.underlying178 Tryd.underlying21 (by simp at hsz; omega)
    have hl : (Conv.runesFrom a0 a0.size 0 #[]).size = (runes a0.data.toList).length := by rw [runesFrom_all]; simp
    rw [runesFrom_all] at hrun
    simp only [List.size_toArray, List.length_map] at hrun
    refine ⟨_, _, hrun, _, rfl, ?_, ?_⟩
    · have hle := runes_length_le a0.data.toList
      have hsz2 : a0.data.toList.length = a0.size := by simp
      have hg1 := grownCap_ge w (runes a0.data.toList).length 0 21
      have hg2 := grownCap_le_maxLen w (runes a0.data.toList).length 0 21 (by simp only [maxLen]; omega)
      have hlen : ((runes a0.data.toList).map (Value.int .i32)).length = (runes a0.data.toList).length := by simp
      refine Kd.R_of_own (h1 := fun _ => rfl) ?_ (fun _ _ => trivial)
      refine ⟨by simp [encs], .inr ⟨w.heap.size, _, _, rfl, Nat.le_refl _, heap_alloc_new w.drew _, ?_, ?_, ?_, ?_⟩⟩
      · exact hg1
      · exact hg2
      · simp; omega
      · simp [encs]
    · exact below_alloc (w := w) (below_drew (Below.refl _ _)) _
  · rw [if_neg hs] at h; cases h
/-- A quiet call behind another quiet region. -/
theorem quiet_more {P : Program} {f : FuncId} {args : Array Value} {w : World} {a n : Nat} {v : Value}
    (h : Calls P f args (w.drewN (a + n)) fun e w' => e = .returned v ∧ w' = w.drewN (a + n)) :
    Calls P f args (w.drewN (a + n)) fun e w'' => e = .returned v ∧ ∃ m, w'' = w.drewN (a + m) :=
  h.mono fun _ _ ⟨he, hm⟩ => ⟨he, n, hm⟩
end Go.Proofs.YtdoebjnfnmfnnaaDoor.F
