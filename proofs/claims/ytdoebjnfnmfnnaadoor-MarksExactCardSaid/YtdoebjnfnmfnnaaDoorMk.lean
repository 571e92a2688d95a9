/- marks.Get and marks.Set: contracts. -/
import Derived.Test.YtdoebjnfnmfnnaaDoorMkS
import Derived.Test.YtdoebjnfnmfnnaaDoorFax1
import Derived.Test.YtdoebjnfnmfnnaaDoorTakesD
import Derived.Test.YtdoebjnfnmfnnaaDoorEvt
set_option linter.unusedVariables false
set_option linter.unusedSimpArgs false
namespace Go.Proofs.YtdoebjnfnmfnnaaDoor.F
open Go.RowKit Go.Lib Go.Shelf Go.Proofs.YtdoebjnfnmfnnaaDoorW.PrintWords Go.Proofs.YtdoebjnfnmfnnaaDoorW.PrintLast Go.Proofs.YtdoebjnfnmfnnaaDoorW.PrintMore Go.Proofs.YtdoebjnfnmfnnaaDoor.Q

theorem one_f (m : SM) : Fa.marks_one.f m.f0 m.f1 = some (oneM m) := by
  unfold Fa.marks_one.f oneM
  by_cases c1 : 97 ≤ m.f0
  · rw [if_pos c1]
    by_cases c2 : m.f0 ≤ 122
    · rw [if_pos c2]
      by_cases c3 : 0 ≤ m.f1
      · rw [if_pos c3]; simp [c1, c2, c3]
      · rw [if_neg c3]; simp [c3]
    · rw [if_neg c2]; simp [c2]
  · rw [if_neg c1]; simp [c1]
theorem may_loop (l : List SM) (hl : l.length ≤ 9223372036854775807) : ∀ (d i : Nat) (p : Int), l.length - i = d → i ≤ l.length → 0 < i → (rdM l (i - 1)).f0 = p →
    Evt (fun k => Fa.marks_May.l0 k l l (l.length : Int) i) (chB p (l.drop i)) := by
  intro d
  induction d with
  | zero =>
    intro i p hd hi h0 hp
    refine Evt.step (Evt.const rfl) (fun k => ?_)
    rw [Fa.marks_May.l0, if_neg (by omega), List.drop_eq_nil_of_le (by omega)]
    rfl
  | succ d ih =>
    intro i p hd hi h0 hp
    have hlt : i < l.length := by omega
    have hr : Fa.rd_T150 l (i : Int) = l[i] := by
      unfold Fa.rd_T150
      rw [Int.toNat_natCast, List.getD_eq_getElem?_getD, List.getElem?_eq_getElem hlt, Option.getD_some]
    have hr2 : Fa.rd_T150 l ((i - 1 : Nat) : Int) = rdM l (i - 1) := by
      unfold Fa.rd_T150 rdM
      rw [Int.toNat_natCast]
      rfl
    have hw : wrap64 ((i : Int) - 1) = ((i - 1 : Nat) : Int) := by rw [w64 (by omega) (by omega)]; omega
    have e0 : l.drop i = l[i] :: l.drop (i + 1) := List.drop_eq_getElem_cons hlt
    have p1 : (i : Int) < (l.length : Int) := by omega
    have p2 : (0 : Int) ≤ (i : Int) := by omega
    have p3 : (i : Int) > 0 := by omega
    have p4 : (0 : Int) ≤ ((i - 1 : Nat) : Int) := by omega
    have p5 : ((i - 1 : Nat) : Int) < (l.length : Int) := by omega
    cases c : oneM l[i] with
    | false =>
      refine Evt.step (Evt.const rfl) (fun k => ?_)
      rw [Fa.marks_May.l0, if_pos p1, if_pos p2, if_pos p1, hr, one_f, Option.bind_some, c, if_neg (by simp), e0, chB, c]
      rfl
    | true =>
      by_cases d2 : p < l[i].f0
      · rw [show chB p (l.drop i) = chB l[i].f0 (l.drop (i + 1)) by rw [e0, chB, c, decide_eq_true d2]; rfl]
        refine Evt.step (ih (i + 1) l[i].f0 (by omega) (by omega) (by omega) (by rw [Nat.add_sub_cancel, rdM_get hlt])) (fun k => ?_)
        rw [Fa.marks_May.l0, if_pos p1, if_pos p2, if_pos p1, hr, one_f, Option.bind_some, c, if_pos rfl, if_pos p3, hw, if_pos p4, if_pos p5, hr2, hp, if_neg (by omega), inc64 (by omega)]
      · refine Evt.step (Evt.const rfl) (fun k => ?_)
        rw [Fa.marks_May.l0, if_pos p1, if_pos p2, if_pos p1, hr, one_f, Option.bind_some, c, if_pos rfl, if_pos p3, hw, if_pos p4, if_pos p5, hr2, hp, if_pos (by omega)]
        rw [e0, chB, c, decide_eq_false d2]
        rfl
theorem may_ev (l : List SM) (hl : l.length ≤ 9223372036854775807) : Evt (fun k => Fa.marks_May.f k l) (mayM l) := by
  refine Evt.same (g := fun k => Fa.marks_May.l0 k l l (l.length : Int) 0) ?_ (fun k => rfl)
  cases l with
  | nil =>
    refine Evt.step (Evt.const rfl) (fun k => ?_)
    rw [Fa.marks_May.l0, if_neg (by simp)]
    rfl
  | cons m r =>
    have hr : Fa.rd_T150 (m :: r) 0 = m := rfl
    have p1 : (0 : Int) < ((m :: r).length : Int) := by simp only [List.length_cons]; omega
    cases c : oneM m with
    | false =>
      refine Evt.step (Evt.const rfl) (fun k => ?_)
      rw [Fa.marks_May.l0, if_pos p1, if_pos (by omega), if_pos p1, hr, one_f, Option.bind_some, c, if_neg (by simp), mayM, c]
      rfl
    | true =>
      rw [show mayM (m :: r) = chB m.f0 ((m :: r).drop 1) by rw [mayM, c]; rfl]
      refine Evt.step (may_loop (m :: r) hl r.length 1 m.f0 (by simp) (by simp) (by omega) rfl) (fun k => ?_)
      rw [Fa.marks_May.l0, if_pos p1, if_pos (by omega), if_pos p1, hr, one_f, Option.bind_some, c, if_pos rfl, if_neg (by omega), show wrap64 (0 + 1) = ((1 : Nat) : Int) from inc64 (i := 0) (by omega)]
theorem Mays_c (A : Option Addr) (c : Nat) (l : List SM) (w : World) (hC : Kd.C Fa.k150 w A l.length l) (hc : l.length ≤ c) :
    Calls Tryd.prog 95 #[.slice A l.length c] w fun e w' => e = .returned (.bool (mayM l)) ∧ Below w.heap.size w w' := by
  obtain ⟨k, hk⟩ := (may_ev l (lenM hC)).ex
  exact Fa.marks_May.calls k A c l (mayM l) w hC hc hk

/-! Cells of marks. -/
def fl (xs : List SM) : List Value := xs.flatMap cM
theorem fl_len : ∀ xs : List SM, (fl xs).length = xs.length * 2
  | [] => rfl
  | m :: r => by
    have := fl_len r
    show (cM m ++ fl r).length = _
    rw [List.length_append, this, List.length_cons]
    show 2 + r.length * 2 = _
    omega
theorem fl_one (xs : List SM) : ∀ u ∈ fl xs, u.oneCell' = true := by
  intro u hu
  obtain ⟨m, _, hm⟩ := List.mem_flatMap.1 hu
  simp only [cM, List.mem_cons, List.not_mem_nil, or_false] at hm
  rcases hm with rfl | rfl <;> rfl
theorem fl_at : ∀ (xs : List SM) (j : Nat) (u : Value), (fl xs)[j]? = some u → ∃ m, xs[j / 2]? = some m ∧ (cM m)[j % 2]? = some u
  | [], j, u, h => by simp [fl] at h
  | m :: r, j, u, h => by
    have e : fl (m :: r) = cM m ++ fl r := rfl
    rw [e] at h
    by_cases c : j < 2
    · rw [List.getElem?_append_left (by exact c)] at h
      refine ⟨m, ?_, ?_⟩
      · rw [show j / 2 = 0 by omega]; rfl
      · rw [show j % 2 = j by omega]; exact h
    · rw [List.getElem?_append_right (by exact Nat.le_of_not_lt c)] at h
      obtain ⟨q, h1, h2⟩ := fl_at r (j - 2) u h
      refine ⟨q, ?_, ?_⟩
      · rw [show j / 2 = (j - 2) / 2 + 1 by omega, List.getElem?_cons_succ]; exact h1
      · rw [show j % 2 = (j - 2) % 2 by omega]; exact h2
theorem fl_append (xs ys : List SM) : fl (xs ++ ys) = fl xs ++ fl ys := List.flatMap_append
theorem fl_take : ∀ (xs : List SM) (i : Nat), (fl xs).take (i * 2) = fl (xs.take i)
  | [], i => by simp [fl]
  | m :: r, 0 => by simp [fl]
  | m :: r, i + 1 => by
    show (cM m ++ fl r).take _ = cM m ++ fl (r.take i)
    rw [← fl_take r i, show (i + 1) * 2 = (cM m).length + i * 2 from by show _ = 2 + i * 2; omega, List.take_length_add_append]
theorem fl_drop : ∀ (xs : List SM) (i : Nat), (fl xs).drop (i * 2) = fl (xs.drop i)
  | [], i => by simp [fl]
  | m :: r, 0 => by simp
  | m :: r, i + 1 => by
    show (cM m ++ fl r).drop _ = fl (r.drop i)
    rw [← fl_drop r i, show (i + 1) * 2 = (cM m).length + i * 2 from by show _ = 2 + i * 2; omega, List.drop_length_add_append]
theorem fl_set : ∀ (xs : List SM) (i : Nat) (x : SM), i < xs.length → ((fl xs).set (i * 2) (.int .i64 x.f0)).set (i * 2 + 1) (.int .i64 x.f1) = fl (xs.set i x)
  | [], i, x, h => by simp at h
  | m :: r, 0, x, _ => rfl
  | m :: r, i + 1, x, h => by
    have ih := fl_set r i x (by simpa using h)
    show (([Value.int .i64 m.f0, .int .i64 m.f1] ++ fl r).set _ _).set _ _ = cM m ++ fl (r.set i x)
    rw [← ih, show (i + 1) * 2 = i * 2 + 1 + 1 by omega]
    rfl
theorem fl_reps (w : World) (base : Nat) (ok : Nat → Prop) (xs : List SM) : Reps (Fa.k150.M w base ok) 2 xs (fl xs) := by
  refine ⟨fl_len xs, fun j p hj => ?_⟩
  have hlt := (List.getElem?_eq_some_iff.1 hj).1
  rw [fl_drop, List.drop_eq_getElem_cons hlt]
  have e : xs[j] = p := (List.getElem?_eq_some_iff.1 hj).2
  rw [e]
  exact Fa.k150_mkM w base ok p
theorem fl_R {w : World} {base : Nat} {v : Value} {xs : List SM} (h : w.ownsRow base 150 2 v xs.length (fl xs)) : Kd.R Fa.k150 150 w base (fun _ => True) v xs :=
  ⟨fun _ _ => trivial, fl xs, h, fl_reps _ _ _ _⟩
theorem fl_C {w : World} {ad : Addr} {xs : List SM} (h : Kd.C Fa.k150 w (some ad) xs.length xs) : ∀ j u, (fl xs)[j]? = some u → w.cell? (ad.add j) = some u := by
  intro j u hj
  obtain ⟨m, h1, h2⟩ := fl_at xs j u hj
  have hlt := (List.getElem?_eq_some_iff.1 h1).1
  obtain ⟨ad', e, hc⟩ := h.2.2 (by omega)
  obtain rfl := Option.some.inj e
  obtain ⟨c, _, hK, hcc⟩ := hc (j / 2) m h1
  obtain rfl := Fa.k150_open hK
  have := hcc (j % 2) u h2
  rwa [show j / 2 * Fa.k150.sz + j % 2 = j from by show j / 2 * 2 + j % 2 = j; omega] at this
theorem own_form {w : World} {base n : Nat} {e : TypeId} {v : Value} {cs : List Value} (h : w.ownsRow base e 2 v n cs) : ∃ A c, v = .slice A n c ∧ n ≤ c := by
  rcases h.2 with ⟨rfl, rfl⟩ | ⟨g, cap, cur, rfl, _, _, hn, _⟩
  · exact ⟨none, 0, rfl, Nat.le_refl _⟩
  · exact ⟨_, cap, rfl, hn⟩

set_option maxHeartbeats 2000000 in
set_option maxRecDepth 100000 in
/-- slices.Clone of marks. -/
theorem cl_c (A : Option Addr) (c : Nat) (xs : List SM) (w : World) (hC : Kd.C Fa.k150 w A xs.length xs) (hl : xs.length ≤ 100000) :
    Calls Tryd.prog 97 #[.slice A xs.length c] w fun e w' => ∃ v', e = .returned v' ∧ w'.ownsRow w.heap.size 150 2 v' xs.length (fl xs) ∧ Below w.heap.size w w' := by
  obtain ⟨i0, hi0, hz0, hzs, hzb⟩ := info_parts (show (Tryd.prog.info? 150).map (fun i => (i.zero, i.size, i.bytes)) = some (some (.agg #[.int .i64 0, .int .i64 0]), 2, 16) by kernel_rfl)
  have q22 : ∀ (w : World) (a : Option Addr) (n c n' c' : Nat), (binOp .eql 73 (.slice a n c) (.slice none n' c')).run Tryd.prog w = .ok (.bool a.isNone) w := fun w a n c n' c' => Lib.run_eql_slice_nil w _ _ a n c n' c' Tryd.underlying73
  cases A with
  | none =>
    have h0 : xs = [] := by
      cases xs with
      | nil => rfl
      | cons m r =>
        obtain ⟨ad, e, _⟩ := hC.2.2 (by simp)
        cases e
    subst h0
    clear hC
    go_enter Tryd.func97, Tryd.ntmps97
    go_wp2
    go_ret
    exact ⟨_, rfl, ⟨rfl, .inl ⟨rfl, rfl⟩⟩, Below.refl _ _⟩
  | some ad =>
    have HCC := Aside0.mk (fl_C hC)
    have HL := Aside0.mk hl
    clear hC hl
    go_enter Tryd.func97, Tryd.ntmps97
    go_wp2_with (at_builtin; refine wpList_append_own _ rfl _ _ 73 rfl w.heap.size 150 i0 _ 2 16 Tryd.underlying73 hi0 hz0 hzs hzb rfl (by decide) _ _ _ rfl (World.ownsRow_made w #[] 0 (Nat.le_refl _) (Nat.zero_le _) (by simp)) ad xs.length c (fl xs) rfl ?qc1 ?qc2 ?qc3 ?qc4 ?qc5 ?qc6 ?_)
    case qc1 => exact fl_len xs
    case qc2 =>
      intro j u hj
      exact Lib.cell?_alloc_some _ (HCC.out j u hj)
    case qc3 => exact fl_one xs
    case qc4 => have := HL.out; unfold maxLen; omega
    case qc5 => have := HL.out; omega
    case qc6 => simp
    intro v' w1 hown hgrow hnil
    go_wp2
    go_ret
    refine ⟨v', rfl, by simpa using hown, ?_⟩
    exact ((Below.refl _ w).alloc (Nat.le_refl _) _).grown hgrow (by simp) (by intro k hk; simp [Value.ownBlock] at hk; omega)
end Go.Proofs.YtdoebjnfnmfnnaaDoor.F
