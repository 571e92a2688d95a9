/- codec.Bytes, codec.Take: contracts. -/
import Derived.Test.YtimecfelcjgpiaaOrd
import Derived.Test.YtimecfelcjgpiaaWInv
import Derived.Laws.BitsLemmas
import Derived.IntWalk
set_option linter.unusedVariables false
set_option linter.unusedSimpArgs false
namespace Go.Proofs.Ytimecfelcjgpiaa.F
open Go.RowKit Go.Proofs.YtimecfelcjgpiaaW.PrintWords Go.Proofs.YtimecfelcjgpiaaW.PrintLast Go.Proofs.YtimecfelcjgpiaaW.PrintMore Go.Proofs.Ytimecfelcjgpiaa.Q

theorem info_u8 : (Try.prog.info? 5).map (fun i => (i.zero, i.size, i.bytes)) = some (some (.int .u8 0), 1, 1) := by kernel_rfl
/-- A writer with bytes. -/
structure Wr (w W : World) (g : Nat) (v : Value) (xs : List Int) : Prop where
  blk : W.heap[g]? = some (.cells #[v] 83 (0, 0))
  own : Kd.R (Kd.int .u8) 5 W w.heap.size (fun _ => True) v xs
  bel : Below w.heap.size w W
  low : w.heap.size ≤ g
/-- A number's bytes, the highest first. -/
def nbytes (n : Int) : Nat → List Int
  | 0 => []
  | m + 1 => n / 2 ^ (8 * m) % 256 :: nbytes n m
set_option maxHeartbeats 4000000 in
set_option maxRecDepth 100000 in
theorem put_c (w W : World) (g : Nat) (v : Value) (xs : List Int) (n : Int) (m : Nat) (hm : m ≤ 3) (hx : xs.length ≤ 1000) (h : Wr w W g v xs) :
    Calls Try.prog 50 #[.pointer (some ⟨g, 0, none⟩), .int .i64 n, .int .i64 (m : Int)] W fun e w' => e = .returned (.tuple #[]) ∧ ∃ v', Wr w w' g v' (xs ++ nbytes n m) ∧ KeepBut W w' g v.ownBlock := by
  have HW := Aside0.mk h
  clear h
  go_enter Try.func50, Try.ntmps50
  go_wp2
  go_loopg [6] m (fun gk v6 wr => ∃ (v1 : Value) (ys : List Int), v6 = .int .i64 ((gk : Int) - 1) ∧ Aside0 (KeepBut W wr g v.ownBlock) ∧ Aside0 (v1.ownBlock = v.ownBlock ∨ ∃ b, v1.ownBlock = some b ∧ W.heap.size ≤ b) ∧ Aside0 (gk ≤ m) ∧ Aside0 (ys ++ nbytes n gk = xs ++ nbytes n m) ∧ Aside0 (ys.length + gk = xs.length + m) ∧ Aside0 (Wr w wr g v1 ys))
  case atStart => exact ⟨v, xs, by go_num, ⟨KeepBut.refl _ _ _⟩, ⟨.inl rfl⟩, ⟨by omega⟩, ⟨rfl⟩, ⟨rfl⟩, HW⟩
  case round =>
    obtain ⟨v1, ys, rfl, HK0, HV0, HG, HE, HL, HI⟩ := hrel
    cases gk with
    | zero =>
      go_wp2
      go_end0
      refine ⟨rfl, v1, ?_, HK0.out⟩
      have h1 := HE.out
      rw [show nbytes n 0 = [] from rfl, List.append_nil] at h1
      rw [← h1]
      exact HI.out
    | succ k =>
      have hk3 : k ≤ 2 := by have := HG.out; omega
      have e0 : ((k + 1 : Nat) : Int) - 1 = (k : Int) := by omega
      rw [e0]
      clear e0
      have HBy := Aside0.mk (show nbytes n (k + 1) = IntKind.u8.wrap (n / 2 ^ (8 * k)) :: nbytes n k from by rw [IntKind.wrap_u8]; rfl)
      have hw8 : wrap64 (8 * (k : Int)) = 8 * (k : Int) := by unfold wrap64; omega
      have h8a : 0 ≤ 8 * (k : Int) := by omega
      have h8b : 8 * (k : Int) ≤ 64 := by omega
      have h8 : (8 * (k : Int)).toNat = 8 * k := by omega
      go_wp2_with fail
      have BK := Aside0.mk (blk_drew HI.out.blk)
      have HKw := Aside0.mk (show KeepBut W wr.drew g v.ownBlock from HK0.out)
      have HO := Aside0.mk (Kd.R_drew HI.out.own)
      have HB := Aside0.mk (below_drew HI.out.bel)
      have H8 := Aside0.mk h8
      have HW8 := Aside0.mk hw8
      clear h8 hw8
      refine start_ (n := 15) (S := fun w' => w'.cell? ⟨g, 0, none⟩ = some v1) (ds := [14]) #[false, false, false, false, false, false, false, false, false, false, false, false, false, false, false] (by kernel_rfl) rfl rfl ((blk_cell BK.out 0).trans rfl) (fun hHeld => ?_)
      generalize wr.drew = w2 at BK HO HB HKw hHeld ⊢
      refine pure_ (i := 0) (N := some 13) (v := ?_) (a' := ?_) #[true, false, false, false, false, false, false, false, false, false, false, false, false, false, false] rfl rfl (by kernel_rfl) (fun _ _ _ h => h) (Or.inl ⟨by rfl, ?_⟩) ?_ ?_
      rotate_left
      · intro w'
        go_simp
        with_reducible rfl
      rotate_left
      · simp only [Act.put, List.setIfInBounds_toArray, List.set_cons_zero, List.set_cons_succ, i64_w, i32_w]
        rfl
      refine pure_ (i := 1) (N := some 14) (v := ?_) (a' := ?_) #[true, true, false, false, false, false, false, false, false, false, false, false, false, false, false] rfl rfl (by kernel_rfl) (fun _ _ _ h => h) (Or.inl ⟨by rfl, ?_⟩) ?_ ?_
      rotate_left
      · intro w'
        go_simp
        with_reducible rfl
      rotate_left
      · simp only [Act.put, List.setIfInBounds_toArray, List.set_cons_zero, List.set_cons_succ, i64_w, i32_w]
        rfl
      refine pure_ (i := 2) (N := some 15) (v := ?_) (a' := ?_) #[true, true, true, false, false, false, false, false, false, false, false, false, false, false, false] rfl rfl (by kernel_rfl) (fun _ _ _ h => h) (Or.inl ⟨by rfl, ?_⟩) ?_ ?_
      rotate_left
      · intro w'
        go_simp
        with_reducible rfl
      rotate_left
      · simp only [Act.put, List.setIfInBounds_toArray, List.set_cons_zero, List.set_cons_succ, i64_w, i32_w]
        rfl
      refine pure_ (i := 3) (N := some 16) (v := ?_) (a' := ?_) #[true, true, true, true, false, false, false, false, false, false, false, false, false, false, false] rfl rfl (by kernel_rfl) (fun _ _ _ h => h) (Or.inl ⟨by rfl, ?_⟩) ?_ ?_
      rotate_left
      · intro w'
        go_simp
        with_reducible rfl
      rotate_left
      · simp only [Act.put, List.setIfInBounds_toArray, List.set_cons_zero, List.set_cons_succ, i64_w, i32_w]
        rfl
      refine pure_ (i := 5) (N := some 18) (v := ?_) (a' := ?_) #[true, true, true, true, false, true, false, false, false, false, false, false, false, false, false] rfl rfl (by kernel_rfl) (fun _ _ _ h => h) (Or.inl ⟨by rfl, ?_⟩) ?_ ?_
      rotate_left
      · intro w'
        go_simp
        with_reducible rfl
      rotate_left
      · simp only [Act.put, List.setIfInBounds_toArray, List.set_cons_zero, List.set_cons_succ, i64_w, i32_w]
        rfl
      refine pure_ (i := 6) (N := some 19) (v := ?_) (a' := ?_) #[true, true, true, true, false, true, true, false, false, false, false, false, false, false, false] rfl rfl (by kernel_rfl) (fun _ _ _ h => h) (Or.inl ⟨by rfl, ?_⟩) ?_ ?_
      rotate_left
      · intro w'
        go_simp
        with_reducible rfl
      rotate_left
      · simp only [Act.put, List.setIfInBounds_toArray, List.set_cons_zero, List.set_cons_succ, i64_w, i32_w]
        rfl
      refine pure_ (i := 7) (N := some 20) (v := ?_) (a' := ?_) #[true, true, true, true, false, true, true, true, false, false, false, false, false, false, false] rfl rfl (by kernel_rfl) (fun _ _ _ h => h) (Or.inl ⟨by rfl, ?_⟩) ?_ ?_
      rotate_left
      · intro w'
        go_simp
        with_reducible rfl
      rotate_left
      · simp only [Act.put, List.setIfInBounds_toArray, List.set_cons_zero, List.set_cons_succ, i64_w, i32_w, HW8.out]
        rfl
      refine pure_ (i := 8) (N := some 21) (v := ?_) (a' := ?_) #[true, true, true, true, false, true, true, true, true, false, false, false, false, false, false] rfl rfl (by kernel_rfl) (fun _ _ _ h => h) (Or.inl ⟨by rfl, ?_⟩) ?_ ?_
      rotate_left
      · intro w'
        go_simp
        with_reducible rfl
      rotate_left
      · simp only [Act.put, List.setIfInBounds_toArray, List.set_cons_zero, List.set_cons_succ, i64_w, i32_w, H8.out]
        rfl
      refine pure_ (i := 9) (N := some 22) (v := ?_) (a' := ?_) #[true, true, true, true, false, true, true, true, true, true, false, false, false, false, false] rfl rfl (by kernel_rfl) (fun _ _ _ h => h) (Or.inl ⟨by rfl, ?_⟩) ?_ ?_
      rotate_left
      · intro w'
        go_simp
        with_reducible rfl
      rotate_left
      · simp only [Act.put, List.setIfInBounds_toArray, List.set_cons_zero, List.set_cons_succ, i64_w, i32_w]
        rfl
      refine take_ (i := 4) (N := some 17) (v := ?_) (a' := ?_) #[true, true, true, true, true, true, true, true, true, true, false, false, false, false, false] rfl rfl (by kernel_rfl) (fun _ _ _ h => h) (Or.inl ⟨by rfl, ?_⟩) hHeld ?_ ?_
      rotate_left
      · rintro w' s0
        go_simp
        with_reducible rfl
      rotate_left
      · simp only [Act.put, List.setIfInBounds_toArray, List.set_cons_zero, List.set_cons_succ, i64_w, i32_w]
        rfl
      refine one_ (i := 10) (N := some 23) #[true, true, true, true, true, true, true, true, true, true, true, false, false, false, false] rfl rfl (by kernel_rfl) (by decide) (fun K hK => ?_)
      refine value_ (w1 := ?_) (v := ?_) (by rfl) rfl ?_ ?_
      rotate_left 2
      · go_simp
        constructor
        · rfl
        · rfl
      refine hK.out _ _ ((blk_cell (blk_alloc BK.out _) 0).trans rfl) (fun hHeld => ?_)
      clear hK K
      refine norm_ (a' := ?_) ?_ ?_
      rotate_left
      · show Act.put _ (some 23) _ = _
        simp only [Act.put, List.setIfInBounds_toArray, List.set_cons_zero, List.set_cons_succ, i64_w, i32_w]
        rfl
      obtain ⟨Y, hY⟩ : ∃ Y : List Int, Y = ys ++ [IntKind.u8.wrap (n / 2 ^ (8 * k))] := ⟨_, rfl⟩
      have HY := Aside0.mk hY
      clear hY
      refine one_ (i := 11) (N := some 24) #[true, true, true, true, true, true, true, true, true, true, true, true, false, false, false] rfl rfl (by kernel_rfl) (by decide) (fun K hK => ?_)
      refine Kd.R_append_step (Kd.int .u8) (w0 := w) w.heap.size (by rfl) (.tmp 17) (.tmp 23) 39 5 (.int .u8 0) 1 rfl Try.underlying39 info_u8 rfl (by decide) (by omega) v1 ys (IntKind.u8.wrap (n / 2 ^ (8 * k))) [.int .u8 (IntKind.u8.wrap (n / 2 ^ (8 * k)))] (fun _ => True) (fun _ => False) rfl rfl ?aP (fun _ hk => hk.elim) ?aF ?aO ?aB ?aS ?aL ?_
      (case aP => exact rfl)
      (case aB => exact HB.out)
      (case aF => exact (fun _ _ => trivial))
      (case aO => exact HO.out)
      (case aS => exact below_size HB.out)
      (case aL => have := HL.out; omega)
      intro v2 w3 ho hb hg hat
      rw [← HY.out] at ho
      have BK2 := Aside0.mk (blk_grown BK.out hg (Kd.R_ne HO.out BK.out (by decide)))
      have HO2 := Aside0.mk ho
      have HB2 := Aside0.mk hb
      have HK2 := Aside0.mk (KeepBut.trans HKw.out (KeepBut.of_grown hg g) HV0.out)
      have HV2 := Aside0.mk (show v2.ownBlock = v.ownBlock ∨ ∃ b, v2.ownBlock = some b ∧ W.heap.size ≤ b from by
        rcases hat with e | ⟨b, e, hb2⟩
        · rw [e]; exact HV0.out
        · exact .inr ⟨b, e, Nat.le_trans HKw.out.1 hb2⟩)
      clear ho hb hg hat
      obtain ⟨Ao, co, rfl⟩ := Kd.R_slice HO2.out
      refine hK.out _ _ ((blk_cell BK2.out 0).trans rfl) (fun hHeld => ?_)
      clear hK K
      refine norm_ (a' := ?_) ?_ ?_
      rotate_left
      · show Act.put _ (some 24) _ = _
        simp only [Act.put, List.setIfInBounds_toArray, List.set_cons_zero, List.set_cons_succ, i64_w, i32_w]
        rfl
      refine pure_ (i := 12) (N := some 25) (v := ?_) (a' := ?_) #[true, true, true, true, true, true, true, true, true, true, true, true, true, false, false] rfl rfl (by kernel_rfl) (fun _ _ _ h => h) (Or.inl ⟨by rfl, ?_⟩) ?_ ?_
      rotate_left
      · intro w'
        go_simp
        with_reducible rfl
      rotate_left
      · simp only [Act.put, List.setIfInBounds_toArray, List.set_cons_zero, List.set_cons_succ, i64_w, i32_w]
        rfl
      refine pure_ (i := 13) (N := some 26) (v := ?_) (a' := ?_) #[true, true, true, true, true, true, true, true, true, true, true, true, true, true, false] rfl rfl (by kernel_rfl) (fun _ _ _ h => h) (Or.inl ⟨by rfl, ?_⟩) ?_ ?_
      rotate_left
      · intro w'
        go_simp
        with_reducible rfl
      rotate_left
      · simp only [Act.put, List.setIfInBounds_toArray, List.set_cons_zero, List.set_cons_succ, i64_w, i32_w]
        rfl
      refine last_ (i := 14) (N := none) #[true, true, true, true, true, true, true, true, true, true, true, true, true, true, true] rfl rfl (by kernel_rfl) (by decide) (fun K hK => ?_)
      have hs : w3.cell? ⟨g, 0, none⟩ = some v1 := (blk_cell BK2.out 0).trans rfl
      have hfs := blk_frozen BK2.out 0
      refine skip_ (w1 := ?_) (by rfl) rfl ?_ ?_
      rotate_left
      · go_simp
        rfl
      refine hK.out _ _ ?_
      clear hK K
      refine done_ (by kernel_rfl) ?_
      go_wp2_with fail
      go_roundg k
      case measure => omega
      case rel => exact ⟨_, Y, by go_num, ⟨KeepBut.set_ HK2.out 0 _⟩, HV2, ⟨by have := HG.out; omega⟩, ⟨by rw [← HE.out, HBy.out, HY.out, List.append_assoc]; rfl⟩, ⟨by have := HL.out; rw [HY.out]; simp; omega⟩, ⟨⟨blk_put BK2.out 0 _ rfl, Kd.R_mono (Kd.R_far (p := ⟨g, 0, none⟩) (Kd.R_types HO2.out BK2.out (by decide)) (fun _ hk => hk.2) _) (fun _ hk => trivial), below_set HB2.out HI.out.low, HI.out.low⟩⟩⟩
theorem nbytes_len (n : Int) : ∀ m, (nbytes n m).length = m
  | 0 => rfl
  | m + 1 => by rw [nbytes, List.length_cons, nbytes_len n m]
theorem put_i (w W : World) (g : Nat) (v : Value) (xs : List Int) (n : Int) (mi : Int) (m : Nat) (hmi : mi = m) (hm : m ≤ 3) (hx : xs.length ≤ 1000) (h : Wr w W g v xs) :
    Calls Try.prog 50 #[.pointer (some ⟨g, 0, none⟩), .int .i64 n, .int .i64 mi] W fun e w' => e = .returned (.tuple #[]) ∧ ∃ v', Wr w w' g v' (xs ++ nbytes n m) ∧ KeepBut W w' g v.ownBlock := by
  subst hmi
  exact put_c w W g v xs n m hm hx h
theorem len_app {xs : List Int} {n : Int} {m k : Nat} (h : xs.length ≤ k) : (xs ++ nbytes n m).length ≤ k + m := by rw [List.length_append, nbytes_len]; omega
theorem Wr.alloc {w W : World} {g : Nat} {v : Value} {xs : List Int} (h : Wr w W g v xs) (o : Obj) : Wr w (W.alloc o) g v xs :=
  ⟨blk_alloc h.blk o, Kd.R_alloc h.own o, below_alloc h.bel o, h.low⟩
set_option maxHeartbeats 4000000 in
set_option maxRecDepth 100000 in
theorem id_c (w W : World) (g : Nat) (v : Value) (xs : List Int) (t s : Int) (hx : xs.length ≤ 100) (h : Wr w W g v xs) :
    Calls Try.prog 51 #[.pointer (some ⟨g, 0, none⟩), .agg #[.int .i64 t, .int .i64 s]] W fun e w' => e = .returned (.tuple #[]) ∧ ∃ v', Wr w w' g v' (xs ++ nbytes t 2 ++ nbytes s 1) := by
  have HWr := Aside0.mk (h.alloc (.cells #[.int .i64 t, .int .i64 s] 29))
  have BB := Aside0.mk (blk_new W (.cells #[.int .i64 t, .int .i64 s] 29))
  have hne : some W.heap.size ≠ v.ownBlock := Kd.R_ne HWr.out.own BB.out (by decide)
  have hg : W.heap.size ≠ g := by have := blk_lt h.blk; omega
  have HN := Aside0.mk hne
  have HGN := Aside0.mk hg
  clear h hne hg
  go_enter Try.func51, Try.ntmps51
  go_wp2_with fail
  refine (put_i w _ g _ (xs) (t) 2 2 rfl (by omega) (by omega) HWr.out).mono ?_
  rintro e W1 ⟨rfl, v1, hw1, hk1⟩
  replace HWr := Aside0.mk hw1
  have HKB := Aside0.mk hk1
  clear hw1 hk1
  have BB1 := Aside0.mk (HKB.out.blk BB.out HGN.out HN.out)
  have hc1 : W1.cell? ⟨W.heap.size, 1, none⟩ = some (.int .i64 s) := (blk_cell BB1.out 1).trans rfl
  go_wp2_with fail
  refine (put_i w _ g _ (xs ++ nbytes t 2) (s) 1 1 rfl (by omega) (Nat.le_trans (len_app hx) (by omega)) HWr.out).mono ?_
  rintro e W2 ⟨rfl, v2, hw1, hk1⟩
  replace HWr := Aside0.mk hw1
  have HKB := Aside0.mk hk1
  clear hw1 hk1
  go_wp2_with fail
  go_end0
  exact ⟨rfl, v2, HWr.out⟩

def seenBytes : List Int → List Int
  | [] => []
  | n :: ns => nbytes n 2 ++ seenBytes ns
theorem seen_snoc : ∀ (v : List Int) (n : Int), seenBytes (v ++ [n]) = seenBytes v ++ nbytes n 2
  | [], n => by simp [seenBytes]
  | x :: v, n => by simp [seenBytes, seen_snoc v n]
theorem seen_len : ∀ v, (seenBytes v).length = 2 * v.length
  | [] => rfl
  | x :: v => by rw [seenBytes, List.length_append, nbytes_len, seen_len v, List.length_cons]; omega
def headBytes (o : OpN) : List Int := [] ++ nbytes o.kind 1 ++ nbytes o.time 2 ++ nbytes o.site_ 1 ++ nbytes o.atime 2 ++ nbytes o.asite 1 ++ nbytes o.rune 3 ++ nbytes o.site 1 ++ nbytes o.n 2
def opBytes (o : OpN) (v : List Int) : List Int := headBytes o ++ seenBytes v
set_option maxHeartbeats 4000000 in
set_option maxRecDepth 100000 in
theorem bytes_no (o : OpN) (A : Option Addr) (c : Nat) (v : List Int) (w : World) (hr : Kd.C (Kd.int .i64) w A v.length v) (hc : v.length ≤ c) (hb : opB o v = false) :
    Calls Try.prog 11 #[.agg #[.int .i64 o.kind, .int .i64 o.time, .int .i64 o.site_, .int .i64 o.atime, .int .i64 o.asite, .int .i64 o.rune, .int .i64 o.site, .int .i64 o.n, .slice A v.length c]] w fun e w' => e = .returned (.tuple #[.string ⟨#[]⟩, .int .i64 1]) ∧ Below w.heap.size w w' := by
  have HO := Aside0.mk (fun W (z : Kd.C (Kd.int .i64) W A v.length v) => hb ▸ Op_c o A c v W z hc)
  have HR := Aside0.mk hr
  clear hr hc hb
  generalize o.kind = x0 at *
  generalize o.time = x1 at *
  generalize o.site_ = x2 at *
  generalize o.atime = x3 at *
  generalize o.asite = x4 at *
  generalize o.rune = x5 at *
  generalize o.site = x6 at *
  generalize o.n = x7 at *
  go_enter Try.func11, Try.ntmps11
  go_wp2_with fail
  refine (HO.out _ (Kd.C_alloc HR.out _)).mono ?_
  rintro e w1 ⟨rfl, hb⟩
  have HB := Aside0.mk hb
  clear hb
  go_wp2_with fail
  go_ret2
  exact ⟨rfl, below_then (below_alloc (Below.refl _ _) _) (by simp) HB.out⟩
set_option maxHeartbeats 8000000 in
set_option maxRecDepth 100000 in
theorem bytes_yes (o : OpN) (A : Option Addr) (c : Nat) (v : List Int) (w : World) (hr : Kd.C (Kd.int .i64) w A v.length v) (hc : v.length ≤ c) (hb : opB o v = true) (hv : v.length ≤ 100) :
    Calls Try.prog 11 #[.agg #[.int .i64 o.kind, .int .i64 o.time, .int .i64 o.site_, .int .i64 o.atime, .int .i64 o.asite, .int .i64 o.rune, .int .i64 o.site, .int .i64 o.n, .slice A v.length c]] w fun e w' => e = .returned (.tuple #[.string (strOfNums (opBytes o v)), .int .i64 0]) ∧ Below w.heap.size w w' := by
  have HO := Aside0.mk (fun W (z : Kd.C (Kd.int .i64) W A v.length v) => hb ▸ Op_c o A c v W z hc)
  have HR := Aside0.mk hr
  have HBY := Aside0.mk (show opBytes o v = headBytes o ++ seenBytes v from rfl)
  have HHB := Aside0.mk (show headBytes o = [] ++ nbytes o.kind 1 ++ nbytes o.time 2 ++ nbytes o.site_ 1 ++ nbytes o.atime 2 ++ nbytes o.asite 1 ++ nbytes o.rune 3 ++ nbytes o.site 1 ++ nbytes o.n 2 from rfl)
  have HLEN := Aside0.mk (show (headBytes o).length = 13 from by simp [headBytes, nbytes_len])
  generalize opBytes o v = res at *
  generalize headBytes o = hd at *
  clear hr hc hb
  generalize o.kind = x0 at *
  generalize o.time = x1 at *
  generalize o.site_ = x2 at *
  generalize o.atime = x3 at *
  generalize o.asite = x4 at *
  generalize o.rune = x5 at *
  generalize o.site = x6 at *
  generalize o.n = x7 at *
  go_enter Try.func11, Try.ntmps11
  go_wp2_with fail
  refine (HO.out _ (Kd.C_alloc HR.out _)).mono ?_
  rintro e w1 ⟨rfl, hb⟩
  have HB := Aside0.mk hb
  have BO := Aside0.mk (blk_below (blk_new w (.cells #[.int .i64 x0, .int .i64 x1, .int .i64 x2, .int .i64 x3, .int .i64 x4, .int .i64 x5, .int .i64 x6, .int .i64 x7, .slice A v.length c] 32)) hb)
  clear hb
  have hcell : (w1.alloc (.cells #[.slice none 0 0] 83)).cell? ⟨w.heap.size, 0, none⟩ = some (.int .i64 x0) := (blk_cell (blk_alloc BO.out _) 0).trans rfl
  have HWr := Aside0.mk (show Wr w1 (w1.alloc (.cells #[.slice none 0 0] 83)) w1.heap.size (.slice none 0 0) [] from ⟨blk_new _ _, Kd.R_nil _ _ _ _ _, below_alloc (Below.refl _ _) _, Nat.le_refl _⟩)
  go_wp2_with fail
  refine (put_i w1 _ w1.heap.size _ _ (x0) 1 1 rfl (by omega) (by simp only [List.length_append, List.length_nil, nbytes_len]; omega) HWr.out).mono ?_
  rintro e W1 ⟨rfl, v1, hw1, _⟩
  replace HWr := Aside0.mk hw1
  clear hw1
  clear hcell
  have hcell1 : W1.cell? ⟨w.heap.size, 1, none⟩ = some (.int .i64 x1) := pw_cell_below HWr.out.bel ((blk_cell BO.out 1).trans rfl)
  have hcell2 : W1.cell? ⟨w.heap.size, 2, none⟩ = some (.int .i64 x2) := pw_cell_below HWr.out.bel ((blk_cell BO.out 2).trans rfl)
  go_wp2_with fail
  refine (id_c w1 _ w1.heap.size _ _ (x1) (x2) (by simp only [List.length_append, List.length_nil, nbytes_len]; omega) HWr.out).mono ?_
  rintro e W2 ⟨rfl, v2, hw1⟩
  replace HWr := Aside0.mk hw1
  clear hw1
  clear hcell1 hcell2
  have hcell3 : W2.cell? ⟨w.heap.size, 3, none⟩ = some (.int .i64 x3) := pw_cell_below HWr.out.bel ((blk_cell BO.out 3).trans rfl)
  have hcell4 : W2.cell? ⟨w.heap.size, 4, none⟩ = some (.int .i64 x4) := pw_cell_below HWr.out.bel ((blk_cell BO.out 4).trans rfl)
  go_wp2_with fail
  refine (id_c w1 _ w1.heap.size _ _ (x3) (x4) (by simp only [List.length_append, List.length_nil, nbytes_len]; omega) HWr.out).mono ?_
  rintro e W3 ⟨rfl, v3, hw1⟩
  replace HWr := Aside0.mk hw1
  clear hw1
  clear hcell3 hcell4
  have hcell5 : W3.cell? ⟨w.heap.size, 5, none⟩ = some (.int .i64 x5) := pw_cell_below HWr.out.bel ((blk_cell BO.out 5).trans rfl)
  go_wp2_with fail
  refine (put_i w1 _ w1.heap.size _ _ (x5) 3 3 rfl (by omega) (by simp only [List.length_append, List.length_nil, nbytes_len]; omega) HWr.out).mono ?_
  rintro e W4 ⟨rfl, v4, hw1, _⟩
  replace HWr := Aside0.mk hw1
  clear hw1
  clear hcell5
  have hcell6 : W4.cell? ⟨w.heap.size, 6, none⟩ = some (.int .i64 x6) := pw_cell_below HWr.out.bel ((blk_cell BO.out 6).trans rfl)
  go_wp2_with fail
  refine (put_i w1 _ w1.heap.size _ _ (x6) 1 1 rfl (by omega) (by simp only [List.length_append, List.length_nil, nbytes_len]; omega) HWr.out).mono ?_
  rintro e W5 ⟨rfl, v5, hw1, _⟩
  replace HWr := Aside0.mk hw1
  clear hw1
  clear hcell6
  have hcell7 : W5.cell? ⟨w.heap.size, 7, none⟩ = some (.int .i64 x7) := pw_cell_below HWr.out.bel ((blk_cell BO.out 7).trans rfl)
  go_wp2_with fail
  refine (put_i w1 _ w1.heap.size _ _ (x7) 2 2 rfl (by omega) (by simp only [List.length_append, List.length_nil, nbytes_len]; omega) HWr.out).mono ?_
  rintro e W6 ⟨rfl, v6, hw1, _⟩
  replace HWr := Aside0.mk hw1
  clear hw1
  clear hcell7
  have hcell8 : W6.cell? ⟨w.heap.size, 8, none⟩ = some (.slice A v.length c) := pw_cell_below HWr.out.bel ((blk_cell BO.out 8).trans rfl)
  have HWh := Aside0.mk (show Wr w1 W6 w1.heap.size v6 hd from HHB.out ▸ HWr.out)
  clear HWr
  have HC1 := Aside0.mk (Kd.C_below (Kd.C_alloc HR.out (.cells #[.int .i64 x0, .int .i64 x1, .int .i64 x2, .int .i64 x3, .int .i64 x4, .int .i64 x5, .int .i64 x6, .int .i64 x7, .slice A v.length c] 32)) HB.out)
  go_wp2_with fail
  go_loopg [6, 39] v.length (fun gk _ v39 wr => ∃ (k : Nat) (vw : Value), v39 = .int .i64 (k : Int) ∧ Aside0 (k + gk = v.length) ∧ Aside0 (Wr w1 wr w1.heap.size vw (hd ++ seenBytes (v.take k))))
  case atStart => exact ⟨0, v6, rfl, ⟨by omega⟩, ⟨by rw [List.take_zero, seenBytes, List.append_nil]; exact HWh.out⟩⟩
  case round =>
    obtain ⟨k, vw, rfl, HG, HI⟩ := hrel
    cases gk with
    | zero =>
      obtain rfl : k = v.length := by have := HG.out; omega
      have hcw : wr.cell? ⟨w1.heap.size, 0, none⟩ = some vw := (blk_cell HI.out.blk 0).trans rfl
      have hcv := own_string (P := Try.prog) Try.underlying39 Try.underlying5 Try.underlying9 (Kd.own_of_R HI.out.own)
      have HE := Aside0.mk (show hd ++ seenBytes (v.take v.length) = res from by rw [List.take_length]; exact HBY.out.symm)
      rw [HE.out] at hcv
      go_wp2_with fail
      go_ret2
      exact ⟨rfl, below_then (below_then (below_alloc (Below.refl _ _) _) (by simp) HB.out) (Nat.le_trans (by simp) (below_size HB.out)) HI.out.bel⟩
    | succ k1 =>
      have hlt : k < v.length := by have := HG.out; omega
      obtain ⟨b, off, rfl, hcs⟩ := reads_nat (Kd.C_below HC1.out HI.out.bel) (by omega)
      have hx := hcs k hlt
      clear hcs
      have HTS := Aside0.mk (show v.take (k + 1) = v.take k ++ [rd v (k : Int)] from by rw [List.take_succ_eq_append_getElem hlt, rd_get hlt])
      generalize rd v (k : Int) = x at *
      go_wp2_with fail
      refine (put_i w1 _ w1.heap.size _ _ x 2 2 rfl (by omega) (by rw [List.length_append, seen_len, List.length_take]; have := HLEN.out; omega) HI.out).mono ?_
      rintro e W7 ⟨rfl, v7, hw7, _⟩
      have HW7 := Aside0.mk hw7
      clear hw7
      go_wp2_with fail
      go_roundg k1
      case measure => omega
      case rel => exact ⟨k + 1, v7, by go_num, ⟨by have := HG.out; omega⟩, ⟨by rw [HTS.out, seen_snoc, ← List.append_assoc]; exact HW7.out⟩⟩
theorem opB_len {o : OpN} {v : List Int} (h : opB o v = true) : v.length = 4 := by
  unfold opB vecB at h
  simp at h
  exact h.1.2.1
/-- codec.Bytes' answer. -/
def bytesF (o : OpN) (v : List Int) : ByteArray × Int := if opB o v = true then (strOfNums (opBytes o v), 0) else (⟨#[]⟩, 1)
def codec_Bytes.f (a0_0 a0_1 a0_2 a0_3 a0_4 a0_5 a0_6 a0_7 : Int) (l0_8 : List Int) : Option (ByteArray × Int) := some (bytesF ⟨a0_0, a0_1, a0_2, a0_3, a0_4, a0_5, a0_6, a0_7⟩ l0_8)
theorem codec_Bytes.calls (a0_0 a0_1 a0_2 a0_3 a0_4 a0_5 a0_6 a0_7 : Int) (A0_8 : Option Addr) (c0_8 : Nat) (l0_8 : List Int) (r1 : ByteArray) (r2 : Int) (w : World) (hr0_8 : Kd.C (Kd.int .i64) w A0_8 l0_8.length l0_8) (hc0_8 : l0_8.length ≤ c0_8)
    (h : codec_Bytes.f a0_0 a0_1 a0_2 a0_3 a0_4 a0_5 a0_6 a0_7 l0_8 = some (r1, r2)) :
    Calls Try.prog 11 #[.agg #[.int .i64 a0_0, .int .i64 a0_1, .int .i64 a0_2, .int .i64 a0_3, .int .i64 a0_4, .int .i64 a0_5, .int .i64 a0_6, .int .i64 a0_7, .slice A0_8 l0_8.length c0_8]] w fun e w' => e = .returned (.tuple #[.string r1, .int .i64 r2]) ∧ Below w.heap.size w w' := by
  have h0 := Option.some.inj h
  unfold bytesF at h0
  cases hb : opB ⟨a0_0, a0_1, a0_2, a0_3, a0_4, a0_5, a0_6, a0_7⟩ l0_8 with
  | true =>
    rw [hb, if_pos rfl] at h0
    simp only [Prod.mk.injEq] at h0
    obtain ⟨rfl, rfl⟩ := h0
    exact bytes_yes ⟨a0_0, a0_1, a0_2, a0_3, a0_4, a0_5, a0_6, a0_7⟩ A0_8 c0_8 l0_8 w hr0_8 hc0_8 hb (by rw [opB_len hb]; omega)
  | false =>
    rw [hb, if_neg (by simp)] at h0
    simp only [Prod.mk.injEq] at h0
    obtain ⟨rfl, rfl⟩ := h0
    exact bytes_no ⟨a0_0, a0_1, a0_2, a0_3, a0_4, a0_5, a0_6, a0_7⟩ A0_8 c0_8 l0_8 w hr0_8 hc0_8 hb
end Go.Proofs.Ytimecfelcjgpiaa.F
