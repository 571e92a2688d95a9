/- slices.Insert of one element into a row of the call's own, at quill/api.Reg: contract. -/
import Derived.Test.YtdoebjnfnmfnnaaDoorGen
import Derived.Test.YtdoebjnfnmfnnaaDoorWMore
import Derived.Test.YtdoebjnfnmfnnaaDoorWN
import Derived.Test.YtdoebjnfnmfnnaaDoorWInvWords
import Derived.Test.YtdoebjnfnmfnnaaDoorWGuard
import Derived.Test.YtdoebjnfnmfnnaaDoorWAt
import Derived.Test.YtdoebjnfnmfnnaaDoorWNEv
set_option linter.unusedVariables false
set_option linter.unusedSimpArgs false
namespace Go.Proofs.YtdoebjnfnmfnnaaDoor.F
open Go.RowKit Go.Lib Go.Shelf Go.Proofs.YtdoebjnfnmfnnaaDoorW.PrintWords Go.Proofs.YtdoebjnfnmfnnaaDoorW.PrintLast Go.Proofs.YtdoebjnfnmfnnaaDoorW.PrintMore

section
variable (vb : Nat) (vs : List Value) (w : World) (base : Nat)
set_option maxHeartbeats 4000000 in
set_option maxRecDepth 100000 in
/-- At the end. -/
theorem rgins_end (v : Value) (n : Nat) (xs : List Value) (hown : w.ownsRow base 113 3 v n xs) (hn : n ≤ 100000) (hb : base ≤ w.heap.size)
    (hvb : w.heap[vb]? = some (.cells vs.toArray 113 (0, 0))) (hvl : vs.length = 3) (h1v : ∀ u ∈ vs, u.oneCell' = true) :
    Calls Tryd.prog 159 #[v, .int .i64 n, .slice (some ⟨vb, 0, none⟩) 1 1] w fun e w' =>
      ∃ v', e = .returned v' ∧ w'.ownsRow base 113 3 v' (n + 1) (xs ++ vs) ∧ w.grownBy w' v.ownBlock ∧ (v'.ownBlock = v.ownBlock ∨ ∃ k, v'.ownBlock = some k ∧ w.heap.size ≤ k) := by
  obtain ⟨i0, hi0, hz0, hzs, hzb⟩ := info_parts (show (Tryd.prog.info? 113).map (fun i => (i.zero, i.size, i.bytes)) = some (some (.agg #[.int .i64 0, .string ⟨#[]⟩, .bool false]), 3, 32) by kernel_rfl)
  have HO := Aside0.mk hown
  have hnews := news_blk hvb
  rcases hown.2 with ⟨rfl, rfl⟩ | ⟨g, cap, cur, rfl, _, _, hnc, hcm, _⟩
  · clear hown
    go_enter Tryd.func159, Tryd.ntmps159
    go_wp2_with (at_builtin; refine wpList_append_own_at _ rfl _ _ 105 rfl base 113 i0 _ 3 32 Tryd.underlying105 hi0 hz0 hzs hzb rfl (by decide) _ 0 xs rfl HO.out ⟨vb, 0, none⟩ 1 1 vs rfl (by rw [hvl]) hnews h1v (by unfold maxLen; omega) (by omega) hb ?_)
    intro v' w1 hown' hgrow _ hat
    go_wp2
    go_ret
    exact ⟨v', rfl, hown', hgrow, hat.imp (fun h => h) (fun h => ⟨_, h, Nat.le_refl _⟩)⟩
  · clear hown
    go_enter Tryd.func159, Tryd.ntmps159
    go_wp2_with (at_builtin; refine wpList_append_own_at _ rfl _ _ 105 rfl base 113 i0 _ 3 32 Tryd.underlying105 hi0 hz0 hzs hzb rfl (by decide) _ n xs rfl HO.out ⟨vb, 0, none⟩ 1 1 vs rfl (by rw [hvl]) hnews h1v (by unfold maxLen; omega) (by omega) hb ?_)
    all_goals
      intro v' w1 hown' hgrow _ hat
      go_wp2
      go_ret
      exact ⟨v', rfl, hown', hgrow, hat.imp (fun h => h) (fun h => ⟨_, h, Nat.le_refl _⟩)⟩

set_option maxHeartbeats 4000000 in
set_option maxRecDepth 100000 in
/-- There is room: in place. -/
theorem rgins_shift (g n cap i : Nat) (cur : Array Value) (xs : List Value) (hg : w.heap[g]? = some (.cells cur 113 (0, 0))) (hcs : cur.size = cap * 3) (htake : cur.toList.take (n * 3) = xs) (hi : i < n) (hroom : n + 1 ≤ cap) (hcm : cap ≤ maxLen)
    (hvb : w.heap[vb]? = some (.cells vs.toArray 113 (0, 0))) (hvl : vs.length = 3) (h1v : ∀ u ∈ vs, u.oneCell' = true) (h1c : ∀ u ∈ xs, u.oneCell' = true) (hne : vb ≠ g) (hbg : base ≤ g) :
    Calls Tryd.prog 159 #[.slice (some ⟨g, 0, none⟩) n cap, .int .i64 i, .slice (some ⟨vb, 0, none⟩) 1 1] w fun e w' =>
      ∃ v', e = .returned v' ∧ w'.ownsRow base 113 3 v' (n + 1) (xs.take (i * 3) ++ vs ++ xs.drop (i * 3)) ∧ w.grownBy w' (some g) ∧ (v'.ownBlock = some g ∨ ∃ k, v'.ownBlock = some k ∧ w.heap.size ≤ k) := by
  have hxl : xs.length = n * 3 := by rw [← htake, List.length_take]; simp; omega
  have hc63 : cap ≤ 9223372036854775807 := by unfold maxLen at hcm; omega
  obtain ⟨cs, hcsd⟩ : ∃ cs, xs.drop (i * 3) = cs := ⟨_, rfl⟩
  have hdl : cs.length = (n - i) * 3 := by rw [← hcsd, List.length_drop, hxl]; omega
  have h1d : ∀ u ∈ cs, u.oneCell' = true := fun u hu => h1c u (List.mem_of_mem_drop (hcsd ▸ hu))
  obtain ⟨C1, hC1⟩ : ∃ C1 : Array Value, C1 = (cur.toList.take (i * 3 + 3) ++ cs ++ cur.toList.drop (i * 3 + 3 + cs.length)).toArray := ⟨_, rfl⟩
  have hC1s : C1.size = cap * 3 := by rw [hC1]; simp only [List.size_toArray, List.length_append, List.length_take, List.length_drop, Array.length_toList]; omega
  obtain ⟨C2, hC2⟩ : ∃ C2 : Array Value, C2 = (C1.toList.take (i * 3) ++ vs ++ C1.toList.drop (i * 3 + vs.length)).toArray := ⟨_, rfl⟩
  have hC2s : C2.size = cap * 3 := by rw [hC2]; simp only [List.size_toArray, List.length_append, List.length_take, List.length_drop, Array.length_toList]; omega
  have HF := Aside0.mk (show C2.toList.take ((n + 1) * 3) = xs.take (i * 3) ++ vs ++ xs.drop (i * 3) by
    rw [hC2, show (n + 1) * 3 = n * 3 + 3 by omega]
    exact ins_fact cur.toList xs vs (i * 3) (n * 3) 3 htake (by omega) (by simp; omega) hvl C1.toList (by rw [hC1, hcsd]))
  have hsz : (Tryd.prog.info? 113).map (·.size) = some 3 := by kernel_rfl
  have HS1 := Aside0.mk (show w.shape? vb = some (113, 3) by simp [World.shape?, hvb, hvl])
  have HS2 := Aside0.mk (show w.shape? g = some (113, cap * 3) by simp [World.shape?, hg, hcs])
  have hov : ∀ lb cb, (callFunc 175 #[.slice (some ⟨vb, 0, none⟩) 1 1, .slice (some ⟨g, (i + 1) * 3, none⟩) lb cb]).run Tryd.prog w = .ok (.value (.bool false)) w := fun lb cb => by
    rw [run_callFunc_extern Tryd.func175 (by kernel_rfl) (by kernel_rfl) (by kernel_rfl) (e := Extern.SlicesOverlaps.overlaps #[105, 105] #[4]) (by kernel_rfl),
      Lib.run_overlaps_apart w 105 4 113 Tryd.underlying105 3 (fun w => by rfl) ⟨vb, 0, none⟩ ⟨g, (i + 1) * 3, none⟩ 1 1 lb cb hne 113 113 3 (cap * 3) HS1.out HS2.out (by omega) (by simp [World.frozen?, hvb]) (by simp [World.frozen?, hvb])]
    rfl
  have hcp1 : ∀ (W : World), W.heap[g]? = some (.cells cur 113 (0, 0)) → ∀ ty dc sc, (Builtin.copy_ #[105, 105] ty #[.slice (some ⟨g, (i + 1) * 3, none⟩) (n - i) dc, .slice (some ⟨g, i * 3, none⟩) (n + 1 - i) sc]).run Tryd.prog W = .ok (goInt (n - i : Nat)) (W.setRow g C1) := fun W hW ty dc sc => by
    have := run_copy_k (P := Tryd.prog) W 105 105 ty 113 g ((i + 1) * 3) (n - i) dc ⟨g, i * 3, none⟩ (n + 1 - i) sc 3 cur _ cs Tryd.underlying105 hsz hW
      (by rw [hdl]; simp only [Nat.min_def]; split <;> omega)
      (fun j u hj => by
        rw [cell_row_add hW, ← Array.getElem?_toList]
        rw [← hcsd, ← htake, List.getElem?_drop, List.getElem?_take] at hj
        split at hj
        · exact hj
        · cases hj)
      (by rw [hdl]; omega) h1d
    rw [this, show (i + 1) * 3 = i * 3 + 3 by omega, ← hC1]
    congr 2
    simp only [Nat.min_def]; split <;> omega
  have hcp2 : ∀ (W : World), W.heap[g]? = some (.cells C1 113 (0, 0)) → W.heap[vb]? = some (.cells vs.toArray 113 (0, 0)) → ∀ ty dc, (Builtin.copy_ #[105, 105] ty #[.slice (some ⟨g, i * 3, none⟩) (n + 1 - i) dc, .slice (some ⟨vb, 0, none⟩) 1 1]).run Tryd.prog W = .ok (goInt 1) (W.setRow g C2) := fun W hW hV ty dc => by
    have := run_copy_k (P := Tryd.prog) W 105 105 ty 113 g (i * 3) (n + 1 - i) dc ⟨vb, 0, none⟩ 1 1 3 C1 _ vs Tryd.underlying105 hsz hW
      (by rw [hvl]; simp only [Nat.min_def]; split <;> omega) (news_blk hV) (by rw [hvl]; omega) h1v
    rw [this, ← hC2]
    congr 2
    simp only [Nat.min_def]; split <;> omega
  have mixed : Tryd.prog.follows .mixedOrders = true := by kernel_rfl
  have hw1 : IntKind.i64.wrap ((i : Int) + 1) = (i : Int) + 1 := by rw [IntKind.wrap_i64]; omega
  have hw2 : IntKind.i64.wrap ((n : Int) + 1) = (n : Int) + 1 := by rw [IntKind.wrap_i64]; omega
  have hz2 : ¬ ((i : Int) = (n : Int)) := by omega
  have hb1 : (0 : Int) ≤ (i : Int) + 1 := by omega
  have hin : i ≤ n := by omega
  have htn : ((i : Int) + 1).toNat = i + 1 := by omega
  have hb2 : ¬ (cap = i + 1) := by omega
  have hb3 : (i : Int) ≤ (n : Int) + 1 := by omega
  have hb4 : ¬ (cap = i) := by omega
  have HG := Aside0.mk hg
  have HV := Aside0.mk hvb
  have HH := Aside0.mk (And.intro hC1s hC2s)
  have HHs := Aside0.mk hsz
  clear hC1 hC2 hC1s hC2s hcsd hdl h1d hxl h1c htake hcs hg hvb hsz
  go_enter Tryd.func159, Tryd.ntmps159
  go_wp2_with (simp only [hov])
  have HC1 := Aside0.mk (show (w.drew.setRow g C1).heap[g]? = some (.cells C1 113 (0, 0)) from setRow_heap _ g cur C1 _ _ HG.out)
  have HV1 := Aside0.mk (show (w.drew.setRow g C1).heap[vb]? = some (.cells vs.toArray 113 (0, 0)) from (setRow_other _ g vb C1 hne).trans HV.out)
  have HC2 := Aside0.mk (show ((w.drew.setRow g C1).setRow g C2).heap[g]? = some (.cells C2 113 (0, 0)) from setRow_heap _ g C1 C2 _ _ HC1.out)
  have hcA := hcp1 w.drew HG.out
  have hcB := hcp2 (w.drew.setRow g C1) HC1.out HV1.out
  clear hcp1 hcp2
  go_region_law_o (refine step_copy_k rfl _ _ 105 105 rfl _ _ (by simp [Act.eval, Act.put]) (by simp [Act.eval, Act.put]) (hcA _ _ _) ?_)
  go_wp2_with (at_builtin; refine wpList_copy_k _ rfl _ _ 105 105 rfl _ _ rfl rfl (hcB _ _) ?_)
  go_ret
  refine ⟨_, rfl, ⟨?_, .inr ⟨g, cap, C2, rfl, hbg, HC2.out, hroom, hcm, HH.out.2, HF.out⟩⟩, ⟨rfl, rfl, rfl, ?_, ?_⟩, .inl rfl⟩
  · rw [← HF.out, List.length_take]
    have := HH.out.2
    simp only [Array.length_toList]
    omega
  · simp
  · intro k _ hk
    have hkg : k ≠ g := fun e => hk (by rw [e])
    rw [setRow_other _ g k C2 hkg, setRow_other _ g k C1 hkg]
    rfl

set_option maxHeartbeats 4000000 in
set_option maxRecDepth 100000 in
/-- There is none: a new row. -/
theorem rgins_grow (g n cap i : Nat) (cur : Array Value) (xs : List Value) (hg : w.heap[g]? = some (.cells cur 113 (0, 0))) (hcs : cur.size = cap * 3) (htake : cur.toList.take (n * 3) = xs) (hi : i < n) (hnc : n ≤ cap) (hroom : cap < n + 1) (hn : n ≤ 100000)
    (hvb : w.heap[vb]? = some (.cells vs.toArray 113 (0, 0))) (hvl : vs.length = 3) (h1v : ∀ u ∈ vs, u.oneCell' = true) (h1c : ∀ u ∈ xs, u.oneCell' = true) (hb : base ≤ w.heap.size) :
    Calls Tryd.prog 159 #[.slice (some ⟨g, 0, none⟩) n cap, .int .i64 i, .slice (some ⟨vb, 0, none⟩) 1 1] w fun e w' =>
      ∃ v', e = .returned v' ∧ w'.ownsRow base 113 3 v' (n + 1) (xs.take (i * 3) ++ vs ++ xs.drop (i * 3)) ∧ w.grownBy w' (some g) ∧ (v'.ownBlock = some g ∨ ∃ k, v'.ownBlock = some k ∧ w.heap.size ≤ k) := by
  obtain ⟨i0, hi0, hz0, hzs, hzb⟩ := info_parts (show (Tryd.prog.info? 113).map (fun i => (i.zero, i.size, i.bytes)) = some (some (.agg #[.int .i64 0, .string ⟨#[]⟩, .bool false]), 3, 32) by kernel_rfl)
  have hxl : xs.length = n * 3 := by rw [← htake, List.length_take]; simp; omega
  have hgl : g < w.heap.size := (Array.getElem?_eq_some_iff.1 hg).1
  have hvl2 : vb < w.heap.size := (Array.getElem?_eq_some_iff.1 hvb).1
  have hold : (Builtin.firstCells i0.size i (.slice (some ⟨g, 0, none⟩) i cap)).run Tryd.prog w.drew = .ok (xs.take (i * 3)).toArray w.drew := by
    rw [hzs]
    refine run_firstCells_some w.drew 3 i ⟨g, 0, none⟩ i cap (xs.take (i * 3)) (by rw [List.length_take]; omega) (fun j u hj => ?_)
    rw [cell_row_add (w := w.drew) hg, Nat.zero_add, ← Array.getElem?_toList]
    rw [← htake, List.take_take, List.getElem?_take] at hj
    split at hj
    · exact hj
    · cases hj
  have hkk : (n : Int) + 1 - (i : Int) = ((n + 1 - i : Nat) : Int) := by omega
  have hik : i + (n + 1 - i) = n + 1 := by omega
  have hrz : ∀ ty, (Builtin.append_ #[105, 3] ty #[.slice (some ⟨g, 0, none⟩) i cap, .int .i64 ((n : Int) + 1 - (i : Int))]).run Tryd.prog w =
      .ok (.slice (some ⟨w.heap.size, 0, none⟩) (n + 1) (grownCap w (n + 1) cap 113)) (w.drew.alloc (.cells ((xs.take (i * 3)).toArray ++ Builtin.zeroCells (Value.cells (.agg #[.int .i64 0, .string ⟨#[]⟩, .bool false])) (n + 1 - i) ++ Builtin.zeroCells (Value.cells (.agg #[.int .i64 0, .string ⟨#[]⟩, .bool false])) (grownCap w (n + 1) cap 113 - (n + 1))) 113)) := fun ty => by
    have h := Lib.run_append_grow_zeros w 105 3 ty 113 i0 _ .i64 .i64 Tryd.underlying105 Tryd.underlying3 hi0 hz0 (some ⟨g, 0, none⟩) i cap (xs.take (i * 3)) hold (n + 1 - i) (by omega) (by omega) (by omega) (by omega) (by rw [hzb]; omega) (by rw [hzb, hik]; exact growslice_fits hroom (by omega))
    rw [hik] at h
    rw [hkk]
    exact h
  obtain ⟨G, hG⟩ : ∃ G, G = grownCap w (n + 1) cap 113 := ⟨_, rfl⟩
  have hGn : n + 1 ≤ G := by rw [hG]; exact grownCap_ge w _ _ _
  have hGm : G ≤ maxLen := by rw [hG]; exact grownCap_le_maxLen w (n + 1) cap 113 (by unfold maxLen; omega)
  have hG63 : G ≤ 9223372036854775807 := by unfold maxLen at hGm; omega
  obtain ⟨ROW, hROW⟩ : ∃ ROW : Array Value, ROW = (xs.take (i * 3)).toArray ++ Builtin.zeroCells (Value.cells (.agg #[.int .i64 0, .string ⟨#[]⟩, .bool false])) (n + 1 - i) ++ Builtin.zeroCells (Value.cells (.agg #[.int .i64 0, .string ⟨#[]⟩, .bool false])) (G - (n + 1)) := ⟨_, rfl⟩
  rw [← hG] at hrz
  rw [← hROW] at hrz
  have hRs : ROW.size = G * 3 := by
    rw [hROW]
    simp [Builtin.zeroCells, Value.cells]
    omega
  have hRt : ROW.toList.take (i * 3) = xs.take (i * 3) := by
    rw [hROW]
    simp only [Array.toList_append, List.append_assoc]
    exact List.take_left' (by simp; omega)
  obtain ⟨cs, hcsd⟩ : ∃ cs, xs.drop (i * 3) = cs := ⟨_, rfl⟩
  have hdl : cs.length = (n - i) * 3 := by rw [← hcsd, List.length_drop, hxl]; omega
  have h1d : ∀ u ∈ cs, u.oneCell' = true := fun u hu => h1c u (List.mem_of_mem_drop (hcsd ▸ hu))
  obtain ⟨C1, hC1⟩ : ∃ C1 : Array Value, C1 = (ROW.toList.take (i * 3) ++ vs ++ ROW.toList.drop (i * 3 + vs.length)).toArray := ⟨_, rfl⟩
  have hC1s : C1.size = G * 3 := by rw [hC1]; simp only [List.size_toArray, List.length_append, List.length_take, List.length_drop, Array.length_toList]; omega
  obtain ⟨C2, hC2⟩ : ∃ C2 : Array Value, C2 = (C1.toList.take (i * 3 + 3) ++ cs ++ C1.toList.drop (i * 3 + 3 + cs.length)).toArray := ⟨_, rfl⟩
  have hC2s : C2.size = G * 3 := by rw [hC2]; simp only [List.size_toArray, List.length_append, List.length_take, List.length_drop, Array.length_toList]; omega
  have HF := Aside0.mk (show C2.toList.take ((n + 1) * 3) = xs.take (i * 3) ++ vs ++ xs.drop (i * 3) by
    rw [hC2, show (n + 1) * 3 = n * 3 + 3 by omega, ← hcsd]
    exact grow_fact ROW.toList xs vs (i * 3) (n * 3) 3 hRt hxl (by omega) (by simp; omega) hvl C1.toList (by rw [hC1]))
  have hsz : (Tryd.prog.info? 113).map (·.size) = some 3 := by kernel_rfl
  obtain ⟨N, hN⟩ : ∃ N, N = w.heap.size := ⟨_, rfl⟩
  obtain ⟨W1, hW1⟩ : ∃ W1, W1 = w.drew.alloc (.cells ROW 113) := ⟨_, rfl⟩
  have HNS := Aside0.mk (Nat.le_of_eq hN.symm)
  rw [← hN, ← hW1] at hrz
  have hWN : W1.heap[N]? = some (.cells ROW 113 (0, 0)) := by rw [hW1, hN]; exact heap_alloc_new w.drew _
  have hWg : W1.heap[g]? = some (.cells cur 113 (0, 0)) := by rw [hW1]; exact (Below.heap_alloc w.drew _ g hgl).trans hg
  have hWv : W1.heap[vb]? = some (.cells vs.toArray 113 (0, 0)) := by rw [hW1]; exact (Below.heap_alloc w.drew _ vb hvl2).trans hvb
  have hgN : g ≠ N := by omega
  have hvN : vb ≠ N := by omega
  have hcA : ∀ ty dc, (Builtin.copy_ #[105, 105] ty #[.slice (some ⟨N, i * 3, none⟩) (n + 1 - i) dc, .slice (some ⟨vb, 0, none⟩) 1 1]).run Tryd.prog W1 = .ok (goInt 1) (W1.setRow N C1) := fun ty dc => by
    have := run_copy_k (P := Tryd.prog) W1 105 105 ty 113 N (i * 3) (n + 1 - i) dc ⟨vb, 0, none⟩ 1 1 3 ROW _ vs Tryd.underlying105 hsz hWN
      (by rw [hvl]; simp only [Nat.min_def]; split <;> omega) (news_blk hWv) (by rw [hvl]; omega) h1v
    rw [this, ← hC1]
    congr 2
    simp only [Nat.min_def]; split <;> omega
  obtain ⟨W2, hW2⟩ : ∃ W2, W2 = W1.setRow N C1 := ⟨_, rfl⟩
  rw [← hW2] at hcA
  have hXN : W2.heap[N]? = some (.cells C1 113 (0, 0)) := by rw [hW2]; exact setRow_heap _ N ROW C1 _ _ hWN
  have hXg : W2.heap[g]? = some (.cells cur 113 (0, 0)) := by rw [hW2]; exact (setRow_other _ N g C1 hgN).trans hWg
  have hcB : ∀ ty dc sc, (Builtin.copy_ #[105, 105] ty #[.slice (some ⟨N, (i + 1) * 3, none⟩) (n - i) dc, .slice (some ⟨g, i * 3, none⟩) (n - i) sc]).run Tryd.prog W2.drew = .ok (goInt (n - i : Nat)) (W2.drew.setRow N C2) := fun ty dc sc => by
    have := run_copy_k (P := Tryd.prog) W2.drew 105 105 ty 113 N ((i + 1) * 3) (n - i) dc ⟨g, i * 3, none⟩ (n - i) sc 3 C1 _ cs Tryd.underlying105 hsz hXN
      (by rw [hdl]; simp only [Nat.min_def]; split <;> omega)
      (fun j u hj => by
        rw [cell_row_add (w := W2.drew) hXg, ← Array.getElem?_toList]
        rw [← hcsd, ← htake, List.getElem?_drop, List.getElem?_take] at hj
        split at hj
        · exact hj
        · cases hj)
      (by rw [hdl]; omega) h1d
    rw [this, show (i + 1) * 3 = i * 3 + 3 by omega, ← hC2]
    congr 2
    simp only [Nat.min_def]; split <;> omega
  have hYN : (W2.drew.setRow N C2).heap[N]? = some (.cells C2 113 (0, 0)) := setRow_heap _ N C1 C2 _ _ hXN
  have HEND := Aside0.mk (show (W2.drew.setRow N C2).ownsRow base 113 3 (.slice (some ⟨N, 0, none⟩) (n + 1) G) (n + 1) (xs.take (i * 3) ++ vs ++ xs.drop (i * 3)) ∧ w.grownBy (W2.drew.setRow N C2) (some g) by
    refine ⟨⟨?_, .inr ⟨N, G, C2, rfl, by omega, hYN, hGn, hGm, hC2s, HF.out⟩⟩, ⟨by rw [hW2, hW1]; rfl, by rw [hW2, hW1]; rfl, by rw [hW2, hW1]; rfl, ?_, ?_⟩⟩
    · rw [← HF.out, List.length_take]; simp only [Array.length_toList]; omega
    · rw [hW2, hW1]
      show w.heap.size ≤ (((w.drew.alloc _).setRow N C1).setRow N C2).heap.size
      rw [setRow_size, setRow_size]
      simp
    · intro k hk _
      have hkN : k ≠ N := by omega
      rw [setRow_other _ N k C2 hkN]
      show W2.heap[k]? = _
      rw [hW2, setRow_other _ N k C1 hkN, hW1]
      exact Below.heap_alloc w.drew _ k hk)
  have mixed : Tryd.prog.follows .mixedOrders = true := by kernel_rfl
  have hw1 : IntKind.i64.wrap ((i : Int) + 1) = (i : Int) + 1 := by rw [IntKind.wrap_i64]; omega
  have hw2 : IntKind.i64.wrap ((n : Int) + 1) = (n : Int) + 1 := by rw [IntKind.wrap_i64]; omega
  have hw3 : IntKind.i64.wrap ((n : Int) + 1 - (i : Int)) = (n : Int) + 1 - (i : Int) := by rw [IntKind.wrap_i64]; omega
  have hz2 : ¬ ((i : Int) = (n : Int)) := by omega
  have hz3 : (cap : Int) < (n : Int) + 1 := by omega
  have hb1 : (0 : Int) ≤ (i : Int) + 1 := by omega
  have hin : i ≤ n := by omega
  have htn : ((i : Int) + 1).toNat = i + 1 := by omega
  have hb3 : (i : Int) ≤ (n : Int) := by omega
  have hGi : ¬ (G = i) := by omega
  have hGim : ¬ (G = i + 1) := by omega
  have hci : ¬ (cap = i) := by omega
  clear hkk hik hold hROW hG hRs hRt hcsd hdl h1d hC1 hC1s hC2 hC2s hsz hN hW1 hWN hWg hWv hW2 hXN hXg hYN hgl hvl2 hxl hg hcs htake hvb h1v h1c HF
  go_enter Tryd.func159, Tryd.ntmps159
  go_wp2_with (first
    | (at_builtin; refine Lib.wpList_append_run _ rfl _ _ _ _ rfl _ _ rfl rfl _ _ (hrz _) ?_)
    | (at_builtin; refine wpList_copy_k _ rfl _ _ 105 105 rfl _ _ rfl rfl (hcA _ _) ?_))
  go_region_law_o (refine step_copy_k rfl _ _ 105 105 rfl _ _ (by simp [Act.eval, Act.put]) (by simp [Act.eval, Act.put]) (hcB _ _ _) ?_)
  go_wp2
  go_ret
  exact ⟨_, rfl, HEND.out.1, HEND.out.2, .inr ⟨N, rfl, HNS.out⟩⟩
end
/-- slices.Insert of one element into a row of the call's own. -/
theorem rgIns (v : Value) (n i : Nat) (xs vs : List Value) (vb : Nat) (w : World) (base : Nat) (hown : w.ownsRow base 113 3 v n xs) (hi : i ≤ n) (hn : n ≤ 100000) (hb : base ≤ w.heap.size)
    (hvb : w.heap[vb]? = some (.cells vs.toArray 113 (0, 0))) (hvl : vs.length = 3) (h1v : ∀ u ∈ vs, u.oneCell' = true) (h1c : ∀ u ∈ xs, u.oneCell' = true) (hne : v.ownBlock ≠ some vb) :
    Calls Tryd.prog 159 #[v, .int .i64 i, .slice (some ⟨vb, 0, none⟩) 1 1] w fun e w' =>
      ∃ v', e = .returned v' ∧ w'.ownsRow base 113 3 v' (n + 1) (xs.take (i * 3) ++ vs ++ xs.drop (i * 3)) ∧ w.grownBy w' v.ownBlock ∧ (v'.ownBlock = v.ownBlock ∨ ∃ k, v'.ownBlock = some k ∧ w.heap.size ≤ k) := by
  rcases Nat.lt_or_ge i n with c | c
  · rcases hown.2 with ⟨rfl, rfl⟩ | ⟨g, cap, cur, rfl, hbg, hg, hnc, hcm, hcs, htake⟩
    · omega
    · rcases Nat.lt_or_ge cap (n + 1) with d | d
      · exact rgins_grow vb vs w base g n cap i cur xs hg hcs htake c hnc d hn hvb hvl h1v h1c hb
      · exact rgins_shift vb vs w base g n cap i cur xs hg hcs htake c d hcm hvb hvl h1v h1c (fun e => hne (by rw [e]; rfl)) hbg
  · obtain rfl : i = n := by omega
    have h1 : xs.take (i * 3) = xs := List.take_of_length_le (Nat.le_of_eq hown.1)
    have h2 : xs.drop (i * 3) = [] := List.drop_eq_nil_of_le (Nat.le_of_eq hown.1)
    rw [h1, h2, List.append_nil]
    exact rgins_end vb vs w base v i xs hown hn hb hvb hvl h1v
end Go.Proofs.YtdoebjnfnmfnnaaDoor.F
