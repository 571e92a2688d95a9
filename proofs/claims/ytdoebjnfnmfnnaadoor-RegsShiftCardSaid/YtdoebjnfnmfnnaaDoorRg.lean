/- Cells of registers; slices.Clone. -/
import Derived.Test.YtdoebjnfnmfnnaaDoorRgS
import Derived.Test.YtdoebjnfnmfnnaaDoorRax1
import Derived.Test.YtdoebjnfnmfnnaaDoorEvt
set_option linter.unusedVariables false
set_option linter.unusedSimpArgs false
namespace Go.Proofs.YtdoebjnfnmfnnaaDoor.F
open Go.RowKit Go.Lib Go.Shelf Go.Proofs.YtdoebjnfnmfnnaaDoorW.PrintWords Go.Proofs.YtdoebjnfnmfnnaaDoorW.PrintLast Go.Proofs.YtdoebjnfnmfnnaaDoorW.PrintMore Go.Proofs.YtdoebjnfnmfnnaaDoor.Q

/-! Cells of marks. -/
def flR (xs : List SR) : List Value := xs.flatMap cR
theorem flR_len : ∀ xs : List SR, (flR xs).length = xs.length * 3
  | [] => rfl
  | m :: r => by
    have := flR_len r
    show (cR m ++ flR r).length = _
    rw [List.length_append, this, List.length_cons]
    show 3 + r.length * 3 = _
    omega
theorem flR_one (xs : List SR) : ∀ u ∈ flR xs, u.oneCell' = true := by
  intro u hu
  obtain ⟨m, _, hm⟩ := List.mem_flatMap.1 hu
  simp only [cR, List.mem_cons, List.not_mem_nil, or_false] at hm
  rcases hm with rfl | rfl | rfl <;> rfl
theorem flR_at : ∀ (xs : List SR) (j : Nat) (u : Value), (flR xs)[j]? = some u → ∃ m, xs[j / 3]? = some m ∧ (cR m)[j % 3]? = some u
  | [], j, u, h => by simp [flR] at h
  | m :: r, j, u, h => by
    have e : flR (m :: r) = cR m ++ flR r := rfl
    rw [e] at h
    by_cases c : j < 3
    · rw [List.getElem?_append_left (by exact c)] at h
      refine ⟨m, ?_, ?_⟩
      · rw [show j / 3 = 0 by omega]; rfl
      · rw [show j % 3 = j by omega]; exact h
    · rw [List.getElem?_append_right (by exact Nat.le_of_not_lt c)] at h
      obtain ⟨q, h1, h2⟩ := flR_at r (j - 3) u h
      refine ⟨q, ?_, ?_⟩
      · rw [show j / 3 = (j - 3) / 3 + 1 by omega, List.getElem?_cons_succ]; exact h1
      · rw [show j % 3 = (j - 3) % 3 by omega]; exact h2
theorem flR_append (xs ys : List SR) : flR (xs ++ ys) = flR xs ++ flR ys := List.flatMap_append
theorem flR_take : ∀ (xs : List SR) (i : Nat), (flR xs).take (i * 3) = flR (xs.take i)
  | [], i => by simp [flR]
  | m :: r, 0 => by simp [flR]
  | m :: r, i + 1 => by
    show (cR m ++ flR r).take _ = cR m ++ flR (r.take i)
    rw [← flR_take r i, show (i + 1) * 3 = (cR m).length + i * 3 from by show _ = 3 + i * 3; omega, List.take_length_add_append]
theorem flR_drop : ∀ (xs : List SR) (i : Nat), (flR xs).drop (i * 3) = flR (xs.drop i)
  | [], i => by simp [flR]
  | m :: r, 0 => by simp
  | m :: r, i + 1 => by
    show (cR m ++ flR r).drop _ = flR (r.drop i)
    rw [← flR_drop r i, show (i + 1) * 3 = (cR m).length + i * 3 from by show _ = 3 + i * 3; omega, List.drop_length_add_append]
theorem flR_set : ∀ (xs : List SR) (i : Nat) (x : SR), i < xs.length → (((flR xs).set (i * 3) (.int .i64 x.f0)).set (i * 3 + 1) (.string x.f1)).set (i * 3 + 2) (.bool x.f2) = flR (xs.set i x)
  | [], i, x, h => by simp at h
  | m :: r, 0, x, _ => rfl
  | m :: r, i + 1, x, h => by
    have ih := flR_set r i x (by simpa using h)
    show ((([Value.int .i64 m.f0, .string m.f1, .bool m.f2] ++ flR r).set _ _).set _ _).set _ _ = cR m ++ flR (r.set i x)
    rw [← ih, show (i + 1) * 3 = i * 3 + 1 + 1 + 1 by omega]
    rfl
theorem flR_reps (w : World) (base : Nat) (ok : Nat → Prop) (xs : List SR) : Reps (Ra.k113.M w base ok) 3 xs (flR xs) := by
  refine ⟨flR_len xs, fun j p hj => ?_⟩
  have hlt := (List.getElem?_eq_some_iff.1 hj).1
  rw [flR_drop, List.drop_eq_getElem_cons hlt]
  have e : xs[j] = p := (List.getElem?_eq_some_iff.1 hj).2
  rw [e]
  exact Ra.k113_mkM w base ok p
theorem flR_R {w : World} {base : Nat} {v : Value} {xs : List SR} (h : w.ownsRow base 113 3 v xs.length (flR xs)) : Kd.R Ra.k113 113 w base (fun _ => True) v xs :=
  ⟨fun _ _ => trivial, flR xs, h, flR_reps _ _ _ _⟩
theorem flR_C {w : World} {ad : Addr} {xs : List SR} (h : Kd.C Ra.k113 w (some ad) xs.length xs) : ∀ j u, (flR xs)[j]? = some u → w.cell? (ad.add j) = some u := by
  intro j u hj
  obtain ⟨m, h1, h2⟩ := flR_at xs j u hj
  have hlt := (List.getElem?_eq_some_iff.1 h1).1
  obtain ⟨ad', e, hc⟩ := h.2.2 (by omega)
  obtain rfl := Option.some.inj e
  obtain ⟨c, _, hK, hcc⟩ := hc (j / 3) m h1
  obtain rfl := Ra.k113_open hK
  have := hcc (j % 3) u h2
  rwa [show j / 3 * Ra.k113.sz + j % 3 = j from by show j / 3 * 3 + j % 3 = j; omega] at this
theorem own_formR {w : World} {base n : Nat} {e : TypeId} {v : Value} {cs : List Value} (h : w.ownsRow base e 3 v n cs) : ∃ A c, v = .slice A n c ∧ n ≤ c := by
  rcases h.2 with ⟨rfl, rfl⟩ | ⟨g, cap, cur, rfl, _, _, hn, _⟩
  · exact ⟨none, 0, rfl, Nat.le_refl _⟩
  · exact ⟨_, cap, rfl, hn⟩

set_option maxHeartbeats 2000000 in
set_option maxRecDepth 100000 in
/-- slices.Clone of marks. -/
theorem cl_cR (A : Option Addr) (c : Nat) (xs : List SR) (w : World) (hC : Kd.C Ra.k113 w A xs.length xs) (hl : xs.length ≤ 100000) :
    Calls Tryd.prog 154 #[.slice A xs.length c] w fun e w' => ∃ v', e = .returned v' ∧ w'.ownsRow w.heap.size 113 3 v' xs.length (flR xs) ∧ Below w.heap.size w w' := by
  obtain ⟨i0, hi0, hz0, hzs, hzb⟩ := info_parts (show (Tryd.prog.info? 113).map (fun i => (i.zero, i.size, i.bytes)) = some (some (.agg #[.int .i64 0, .string ⟨#[]⟩, .bool false]), 3, 32) by kernel_rfl)
  have q22 : ∀ (w : World) (a : Option Addr) (n c n' c' : Nat), (binOp .eql 105 (.slice a n c) (.slice none n' c')).run Tryd.prog w = .ok (.bool a.isNone) w := fun w a n c n' c' => Lib.run_eql_slice_nil w _ _ a n c n' c' Tryd.underlying105
  cases A with
  | none =>
    have h0 : xs = [] := by
      cases xs with
      | nil => rfl
      | cons m r =>
        obtain ⟨ad, e, _⟩ := hC.2.2 (by simp)
        cases e
    subst h0
    clear hC
    go_enter Tryd.func154, Tryd.ntmps154
    go_wp2
    go_ret
    exact ⟨_, rfl, ⟨rfl, .inl ⟨rfl, rfl⟩⟩, Below.refl _ _⟩
  | some ad =>
    have HCC := Aside0.mk (flR_C hC)
    have HL := Aside0.mk hl
    clear hC hl
    go_enter Tryd.func154, Tryd.ntmps154
    go_wp2_with (at_builtin; refine wpList_append_own _ rfl _ _ 105 rfl w.heap.size 113 i0 _ 3 32 Tryd.underlying105 hi0 hz0 hzs hzb rfl (by decide) _ _ _ rfl (World.ownsRow_made w #[] 0 (Nat.le_refl _) (Nat.zero_le _) (by simp)) ad xs.length c (flR xs) rfl ?qc1 ?qc2 ?qc3 ?qc4 ?qc5 ?qc6 ?_)
    case qc1 => exact flR_len xs
    case qc2 =>
      intro j u hj
      exact Lib.cell?_alloc_some _ (HCC.out j u hj)
    case qc3 => exact flR_one xs
    case qc4 => have := HL.out; unfold maxLen; omega
    case qc5 => have := HL.out; omega
    case qc6 => simp
    intro v' w1 hown hgrow hnil
    go_wp2
    go_ret
    refine ⟨v', rfl, by simpa using hown, ?_⟩
    exact ((Below.refl _ w).alloc (Nat.le_refl _) _).grown hgrow (by simp) (by intro k hk; simp [Value.ownBlock] at hk; omega)
end Go.Proofs.YtdoebjnfnmfnnaaDoor.F
