/- codec.Take: contract. -/
import Derived.Test.YtimecfelcjgpiaaCodec
set_option linter.unusedVariables false
set_option linter.unusedSimpArgs false
namespace Go.Proofs.Ytimecfelcjgpiaa.F
open Go.RowKit Go.Proofs.YtimecfelcjgpiaaW.PrintWords Go.Proofs.YtimecfelcjgpiaaW.PrintLast Go.Proofs.YtimecfelcjgpiaaW.PrintMore Go.Proofs.Ytimecfelcjgpiaa.Q
theorem info_int : (Try.prog.info? 3).map (fun i => (i.zero, i.size, i.bytes)) = some (some (.int .i64 0), 1, 8) := by kernel_rfl
/-- A string's bytes. -/
def bts (s : ByteArray) : List Int := s.data.toList.map fun b => (b.toNat : Int)
theorem bts_len (s : ByteArray) : (bts s).length = s.size := by simp [bts]
theorem bts_get (s : ByteArray) (k : Nat) (h : k < s.size) : (bts s)[k]'(by rw [bts_len]; exact h) = ((s[k]'h).toNat : Int) := by
  simp [bts, ByteArray.getElem_eq_getElem_data]
theorem bts_drop (s : ByteArray) (m : Nat) (h : m ≤ s.size) : bts (s.extract m s.size) = (bts s).drop m := by
  unfold bts
  have e : (s.extract m s.size).data.toList = s.data.toList.drop m := by
    rw [ByteArray.data_extract, Array.toList_extract, List.extract_eq_take_drop, List.take_of_length_le (by simp)]
  rw [e, List.map_drop]
/-- A number of bytes, the highest first. -/
def numF (a b : Int) : Int := Go.bits .or .i64 (wrap64 (a * 256)) (wrap64 b)
def numB (l : List Int) : Int := l.foldl numF 0
theorem numB_snoc (l : List Int) (b : Int) : numB (l ++ [b]) = numF (numB l) b := by simp [numB]
/-- A reader ahead of bytes. -/
structure Rd (w W : World) (g : Nat) (s : ByteArray) : Prop where
  blk : W.heap[g]? = some (.cells #[.string s] 93 (0, 0))
  bel : Below w.heap.size w W
  low : w.heap.size ≤ g
set_option maxHeartbeats 4000000 in
set_option maxRecDepth 100000 in
theorem get_c (w W : World) (g : Nat) (s : ByteArray) (mi : Int) (m : Nat) (hmi : mi = m) (hm : m ≤ 3) (hs : m ≤ s.size) (hs2 : s.size ≤ 1000) (h : Rd w W g s) :
    Calls Try.prog 57 #[.pointer (some ⟨g, 0, none⟩), .int .i64 mi] W fun e w' => e = .returned (.int .i64 (numB ((bts s).take m))) ∧ Rd w w' g (s.extract m s.size) ∧ KeepBut W w' g none := by
  subst hmi
  have HW := Aside0.mk h
  have hc : W.cell? ⟨g, 0, none⟩ = some (.string s) := (blk_cell h.blk 0).trans rfl
  have hf := blk_frozen h.blk 0
  clear h
  go_enter Try.func57, Try.ntmps57
  go_wp2
  go_loop [5, 6, 8] (fun v5 _ v8 => ∃ k : Nat, k ≤ m ∧ v8 = .int .i64 (k : Int) ∧ v5 = .int .i64 (numB ((bts s).take k))) (fun _ _ v8 => m - (intOf v8).toNat)
  case atStart => exact ⟨0, by omega, rfl, by simp [numB]⟩
  case round =>
    obtain ⟨k, hk, rfl, rfl⟩ := hrel
    by_cases hlt : k < m
    · have d1 : decide (k < m) = true := decide_eq_true hlt
      have p1 : k < s.size := by omega
      have p2 : (k : Int) < (s.size : Int) := by omega
      have HN := Aside0.mk (show numB ((bts s).take (k + 1)) = numF (numB ((bts s).take k)) ((s[k]'p1).toNat : Int) from by rw [List.take_succ_eq_append_getElem (by rw [bts_len]; exact p1), bts_get s k p1, numB_snoc])
      generalize numB ((bts s).take k) = n at *
      go_wp2_with fail
      go_round
      case rel => exact ⟨k + 1, by omega, by go_num, by rw [HN.out]; rfl⟩
      case measure => simp [intOf]; omega
    · obtain rfl : k = m := by omega
      go_wp2_with fail
      go_ret
      exact ⟨rfl, ⟨blk_put HW.out.blk 0 _ rfl, below_set HW.out.bel HW.out.low, HW.out.low⟩, KeepBut.set_ (KeepBut.refl _ _ _) 0 _⟩
set_option maxHeartbeats 4000000 in
set_option maxRecDepth 100000 in
theorem rid_c (w W : World) (g : Nat) (s : ByteArray) (hs : 3 ≤ s.size) (hs2 : s.size ≤ 1000) (h : Rd w W g s) :
    Calls Try.prog 58 #[.pointer (some ⟨g, 0, none⟩)] W fun e w' => e = .returned (.agg #[.int .i64 (numB ((bts s).take 2)), .int .i64 (numB (((bts s).drop 2).take 1))]) ∧ Rd w w' g ((s.extract 2 s.size).extract 1 (s.extract 2 s.size).size) ∧ KeepBut W w' g none := by
  have hz : (s.extract 2 s.size).size = s.size - 2 := by simp
  have HD := Aside0.mk (bts_drop s 2 (by omega))
  have HR1 := Aside0.mk (show Rd w (W.alloc (.cells #[.int .i64 0, .int .i64 0] 29)) g s from ⟨blk_alloc h.blk _, below_alloc h.bel _, h.low⟩)
  have BI := Aside0.mk (blk_new W (.cells #[.int .i64 0, .int .i64 0] 29))
  have hg : W.heap.size ≠ g := by have := blk_lt h.blk; omega
  have hlw := below_size h.bel
  have HGN := Aside0.mk hg
  have HK0 := Aside0.mk (KeepBut.of_below (below_alloc (Below.refl W.heap.size W) (.cells #[.int .i64 0, .int .i64 0] 29)) g none)
  clear hg h
  go_enter Try.func58, Try.ntmps58
  go_wp2_with fail
  refine (get_c w _ g s 2 2 rfl (by omega) (by omega) hs2 HR1.out).mono ?_
  rintro e W1 ⟨rfl, hr1, hk1⟩
  have HRa := Aside0.mk hr1
  have HKa := Aside0.mk hk1
  clear hr1 hk1
  go_wp2_with fail
  refine (get_c w _ g _ 1 1 rfl (by omega) (by omega) (by omega) HRa.out).mono ?_
  rintro e W2 ⟨rfl, hr2, hk2⟩
  rw [HD.out]
  have HRb := Aside0.mk hr2
  have HKb := Aside0.mk hk2
  clear hr2 hk2
  have BI2 := Aside0.mk (HKb.out.blk (HKa.out.blk BI.out HGN.out (by simp)) HGN.out (by simp))
  have hq0 : W2.cell? ⟨W.heap.size, 0, none⟩ = some (.int .i64 0) := (blk_cell BI2.out 0).trans rfl
  have hq1 : W2.cell? ⟨W.heap.size, 1, none⟩ = some (.int .i64 0) := (blk_cell BI2.out 1).trans rfl
  have hz0 := blk_frozen BI2.out 0
  have hz1 := blk_frozen BI2.out 1
  go_wp2_with fail
  refine bodyPost_ret (results_cell_row rfl _ _ W.heap.size 29 #[.int .i64 (numB ((bts s).take 2)), .int .i64 (numB (((bts s).drop 2).take 1))] (0, 0) _ rfl (by refine blk_put (cs := #[.int .i64 (numB ((bts s).take 2)), .int .i64 0]) ?_ 1 _ rfl; refine blk_put (cs := #[.int .i64 0, .int .i64 0]) ?_ 0 _ rfl; exact BI2.out) Try.underlying29 rfl (by kernel_rfl)) rfl ?_
  refine ⟨rfl, ⟨blk_far (blk_far HRb.out.blk HGN.out.symm _) HGN.out.symm _, below_set (below_set HRb.out.bel hlw) hlw, HRb.out.low⟩, ?_⟩
  have hk := ((HK0.out.trans HKa.out (.inl rfl)).trans HKb.out (.inl rfl))
  exact ⟨by simpa [World.setCell] using hk.1, fun i hi h1 h2 => (Below.heap_setCell _ _ _ i (by show i ≠ W.heap.size; omega)).trans ((Below.heap_setCell _ _ _ i (by show i ≠ W.heap.size; omega)).trans (hk.2 i hi h1 h2))⟩
/-- A reader ahead of a list of bytes. -/
def RdL (w W : World) (g : Nat) (l : List Int) : Prop := ∃ s, Rd w W g s ∧ bts s = l
theorem RdL.low {w W : World} {g : Nat} {l : List Int} (h : RdL w W g l) : w.heap.size ≤ g := by obtain ⟨s, h1, _⟩ := h; exact h1.low
theorem RdL.bel {w W : World} {g : Nat} {l : List Int} (h : RdL w W g l) : Below w.heap.size w W := by obtain ⟨s, h1, _⟩ := h; exact h1.bel
theorem RdL.lt {w W : World} {g : Nat} {l : List Int} (h : RdL w W g l) : g < W.heap.size := by obtain ⟨s, h1, _⟩ := h; exact blk_lt h1.blk
theorem RdL.blk {w W : World} {g : Nat} {l : List Int} (h : RdL w W g l) : ∃ s, W.heap[g]? = some (.cells #[.string s] 93 (0, 0)) := by obtain ⟨s, h1, _⟩ := h; exact ⟨s, h1.blk⟩
theorem RdL.step {w W W' : World} {g : Nat} {l : List Int} (h : RdL w W g l) (hb : Below w.heap.size w W') (hg : W'.heap[g]? = W.heap[g]?) : RdL w W' g l := by
  obtain ⟨s, h1, h2⟩ := h
  exact ⟨s, ⟨hg.trans h1.blk, hb, h1.low⟩, h2⟩
theorem RdL.alloc {w W : World} {g : Nat} {l : List Int} (h : RdL w W g l) (o : Obj) : RdL w (W.alloc o) g l :=
  h.step (below_alloc h.bel o) (Below.heap_alloc W o g h.lt)
theorem RdL.set {w W : World} {g b j : Nat} {l : List Int} (h : RdL w W g l) (hb : w.heap.size ≤ b) (hne : b ≠ g) (v : Value) : RdL w (W.setCell ⟨b, j, none⟩ v) g l :=
  h.step (below_set h.bel hb) (Below.heap_setCell W ⟨b, j, none⟩ v g hne.symm)
theorem get_l (w W : World) (g : Nat) (l : List Int) (mi : Int) (m : Nat) (hmi : mi = m) (hm : m ≤ 3) (hs : m ≤ l.length) (hs2 : l.length ≤ 1000) (h : RdL w W g l) :
    Calls Try.prog 57 #[.pointer (some ⟨g, 0, none⟩), .int .i64 mi] W fun e w' => e = .returned (.int .i64 (numB (l.take m))) ∧ RdL w w' g (l.drop m) ∧ KeepBut W w' g none := by
  obtain ⟨s, h1, rfl⟩ := h
  rw [bts_len] at hs hs2
  exact (get_c w W g s mi m hmi hm hs hs2 h1).mono fun e w' ⟨a, b, c⟩ => ⟨a, ⟨_, b, bts_drop s m hs⟩, c⟩
theorem rid_l (w W : World) (g : Nat) (l : List Int) (hs : 3 ≤ l.length) (hs2 : l.length ≤ 1000) (h : RdL w W g l) :
    Calls Try.prog 58 #[.pointer (some ⟨g, 0, none⟩)] W fun e w' => e = .returned (.agg #[.int .i64 (numB (l.take 2)), .int .i64 (numB ((l.drop 2).take 1))]) ∧ RdL w w' g (l.drop 3) ∧ KeepBut W w' g none := by
  obtain ⟨s, h1, rfl⟩ := h
  rw [bts_len] at hs hs2
  refine (rid_c w W g s hs hs2 h1).mono fun e w' ⟨a, b, c⟩ => ⟨a, ⟨_, b, ?_⟩, c⟩
  rw [bts_drop _ 1 (by simp; omega), bts_drop s 2 (by omega), List.drop_drop]
/-- The number of m bytes from place p on. -/
def prt (l : List Int) (p m : Nat) : Int := numB ((l.drop p).take m)
def takeO (l : List Int) : OpN := ⟨prt l 0 1, prt l 1 2, prt l 3 1, prt l 4 2, prt l 6 1, prt l 7 3, prt l 10 1, prt l 11 2⟩
def takeV (l : List Int) (k : Nat) : List Int := (List.range k).map fun i => prt l (13 + 2 * i) 2
theorem takeV_snoc (l : List Int) (k : Nat) : takeV l (k + 1) = takeV l k ++ [prt l (13 + 2 * k) 2] := by simp [takeV, List.range_succ]
def zeroO : OpN := ⟨0, 0, 0, 0, 0, 0, 0, 0⟩
def takeF (s : ByteArray) : OpN × List Int × Int :=
  if s.size = 21 then (if opB (takeO (bts s)) (takeV (bts s) 4) = true then (takeO (bts s), takeV (bts s) 4, 0) else (zeroO, [], 9)) else (zeroO, [], 9)
def zero32 : Array Value := #[.int .i64 0, .int .i64 0, .int .i64 0, .int .i64 0, .int .i64 0, .int .i64 0, .int .i64 0, .int .i64 0, .slice none 0 0]
set_option maxHeartbeats 4000000 in
set_option maxRecDepth 100000 in
theorem take_no (s : ByteArray) (w : World) (hs : s.size ≠ 21) :
    Calls Try.prog 16 #[.string s] w fun e w' => e = .returned (.tuple #[.agg #[.int .i64 0, .int .i64 0, .int .i64 0, .int .i64 0, .int .i64 0, .int .i64 0, .int .i64 0, .int .i64 0, .slice none 0 0], .int .i64 9]) ∧ Below w.heap.size w w' := by
  have d1 : ((s.size : Int) != 21) = true := by rw [bne_iff_ne]; omega
  have hq := blk_new w (.cells zero32 32)
  go_enter Try.func16, Try.ntmps16
  go_wp2_with fail
  exact bodyPost_ret (results_ct rfl _ _ w.heap.size 32 zero32 (0, 0) _ rfl hq Try.underlying32 rfl (by kernel_rfl)) rfl ⟨rfl, below_alloc (Below.refl _ _) _⟩
theorem get_p (w W : World) (g : Nat) (l : List Int) (mi : Int) (m p p' : Nat) (hmi : mi = m) (hp : p + m = p') (hm : m ≤ 3) (hl : l.length = 21) (hp2 : p' ≤ 21) (h : RdL w W g (l.drop p)) :
    Calls Try.prog 57 #[.pointer (some ⟨g, 0, none⟩), .int .i64 mi] W fun e w' => e = .returned (.int .i64 (prt l p m)) ∧ RdL w w' g (l.drop p') ∧ KeepBut W w' g none := by
  refine (get_l w W g (l.drop p) mi m hmi hm (by simp; omega) (by simp; omega) h).mono fun e w' ⟨a, b, c⟩ => ⟨a, ?_, c⟩
  rw [List.drop_drop, hp] at b
  exact b
theorem rid_p (w W : World) (g : Nat) (l : List Int) (p p' : Nat) (hp : p + 3 = p') (hl : l.length = 21) (hp2 : p' ≤ 21) (h : RdL w W g (l.drop p)) :
    Calls Try.prog 58 #[.pointer (some ⟨g, 0, none⟩)] W fun e w' => e = .returned (.agg #[.int .i64 (prt l p 2), .int .i64 (prt l (p + 2) 1)]) ∧ RdL w w' g (l.drop p') ∧ KeepBut W w' g none := by
  refine (rid_l w W g (l.drop p) (by simp; omega) (by simp; omega) h).mono fun e w' ⟨a, b, c⟩ => ⟨?_, ?_, c⟩
  · rw [List.drop_drop] at a; exact a
  · rw [List.drop_drop, hp] at b
    exact b
set_option maxHeartbeats 8000000 in
set_option maxRecDepth 100000 in
theorem take_yes (s : ByteArray) (w : World) (hs : s.size = 21) (b : Bool) (hb : opB (takeO (bts s)) (takeV (bts s) 4) = b) (o : OpN) (v : List Int) (r : Int) (hE : (if b = true then (takeO (bts s), takeV (bts s) 4, (0 : Int)) else (zeroO, [], 9)) = (o, v, r)) :
    Calls Try.prog 16 #[.string s] w fun e w' => ∃ v0_ : Value, e = .returned (.tuple #[.agg #[.int .i64 o.kind, .int .i64 o.time, .int .i64 o.site_, .int .i64 o.atime, .int .i64 o.asite, .int .i64 o.rune, .int .i64 o.site, .int .i64 o.n, v0_], .int .i64 r]) ∧ Kd.R (Kd.int .i64) 3 w' w.heap.size (fun _ => True) v0_ v ∧ Below w.heap.size w w' := by
  have d1 : ((s.size : Int) != 21) = false := by rw [bne_eq_false_iff_eq]; omega
  have HE := Aside0.mk hE
  have HLEN := Aside0.mk (show (bts s).length = 21 from by rw [bts_len]; exact hs)
  have HRd := Aside0.mk (show RdL w ((w.alloc (.cells zero32 32)).alloc (.cells #[.string s] 93)) (w.heap.size + 1) (bts s) from ⟨s, ⟨by have := blk_new (w.alloc (.cells zero32 32)) (.cells #[.string s] 93); simpa using this, below_alloc (below_alloc (Below.refl _ _) _) _, by omega⟩, rfl⟩)
  have BR := Aside0.mk (blk_alloc (blk_new w (.cells zero32 32)) (.cells #[.string s] 93))
  have HB := Aside0.mk hb
  clear hE hb hs
  go_enter Try.func16, Try.ntmps16
  go_wp2_with fail
  obtain ⟨l, hl⟩ : ∃ l, l = bts s := ⟨_, rfl⟩
  rw [← hl] at HRd HB HE HLEN
  replace HRd := Aside0.mk (show RdL w _ _ (l.drop 0) from HRd.out)
  clear hl
  refine (get_p w _ (w.heap.size + 1) _ 1 1 0 1 rfl rfl (by omega) HLEN.out (by omega) HRd.out).mono ?_
  rintro e W1 ⟨rfl, hr1, hk1⟩
  replace HRd := Aside0.mk hr1
  have HK := Aside0.mk hk1
  clear hr1 hk1
  have hsz : w.heap.size + 1 < W1.heap.size := HRd.out.lt
  have hOg : W1.heap.size ≠ w.heap.size + 1 := by omega
  replace BR := Aside0.mk (blk_alloc (HK.out.blk BR.out (by omega) (by simp)) (.cells #[.int .i64 (prt l 0 1), .int .i64 0, .int .i64 0, .int .i64 0, .int .i64 0, .int .i64 0, .int .i64 0, .int .i64 0, .slice none 0 0] 32))
  have BO := Aside0.mk (blk_new W1 (.cells #[.int .i64 (prt l 0 1), .int .i64 0, .int .i64 0, .int .i64 0, .int .i64 0, .int .i64 0, .int .i64 0, .int .i64 0, .slice none 0 0] 32))
  replace HRd := Aside0.mk (HRd.out.alloc (.cells #[.int .i64 (prt l 0 1), .int .i64 0, .int .i64 0, .int .i64 0, .int .i64 0, .int .i64 0, .int .i64 0, .int .i64 0, .slice none 0 0] 32))
  clear HK
  go_wp2_with fail
  refine (rid_p w _ (w.heap.size + 1) _ 1 4 rfl HLEN.out (by omega) HRd.out).mono ?_
  rintro e W2 ⟨rfl, hr1, hk1⟩
  replace HRd := Aside0.mk hr1
  have HK := Aside0.mk hk1
  clear hr1 hk1
  replace BR := Aside0.mk (HK.out.blk BR.out (by omega) (by simp))
  replace BO := Aside0.mk (HK.out.blk BO.out hOg (by simp))
  clear HK
  have hq1 : W2.cell? ⟨W1.heap.size, 1, none⟩ = some (.int .i64 0) := (blk_cell BO.out 1).trans rfl
  have hq2 : W2.cell? ⟨W1.heap.size, 2, none⟩ = some (.int .i64 0) := (blk_cell BO.out 2).trans rfl
  have hz1 := blk_frozen BO.out 1
  have hz2 := blk_frozen BO.out 2
  go_wp2_with fail
  clear hq1 hq2 hz1 hz2
  replace HRd := Aside0.mk ((HRd.out.set (b := W1.heap.size) (j := 1) (by omega) hOg (.int .i64 (prt l 1 2))).set (b := W1.heap.size) (j := 2) (by omega) hOg (.int .i64 (prt l 3 1)))
  replace BR := Aside0.mk (blk_far (blk_far BR.out (p := ⟨W1.heap.size, 1, none⟩) (by show w.heap.size ≠ W1.heap.size; omega) (.int .i64 (prt l 1 2))) (p := ⟨W1.heap.size, 2, none⟩) (by show w.heap.size ≠ W1.heap.size; omega) (.int .i64 (prt l 3 1)))
  replace BO := Aside0.mk (show _ = some (Obj.cells #[(.int .i64 (prt l 0 1)), (.int .i64 (prt l 1 2)), (.int .i64 (prt l 3 1)), (.int .i64 0), (.int .i64 0), (.int .i64 0), (.int .i64 0), (.int .i64 0), (.slice none 0 0)] 32 (0, 0)) from blk_put (blk_put BO.out 1 (.int .i64 (prt l 1 2)) rfl) 2 (.int .i64 (prt l 3 1)) rfl)
  refine (rid_p w _ (w.heap.size + 1) _ 4 7 rfl HLEN.out (by omega) HRd.out).mono ?_
  rintro e W3 ⟨rfl, hr1, hk1⟩
  replace HRd := Aside0.mk hr1
  have HK := Aside0.mk hk1
  clear hr1 hk1
  replace BR := Aside0.mk (HK.out.blk BR.out (by omega) (by simp))
  replace BO := Aside0.mk (HK.out.blk BO.out hOg (by simp))
  clear HK
  have hq3 : W3.cell? ⟨W1.heap.size, 3, none⟩ = some (.int .i64 0) := (blk_cell BO.out 3).trans rfl
  have hz3 := blk_frozen BO.out 3
  have hq4 : W3.cell? ⟨W1.heap.size, 4, none⟩ = some (.int .i64 0) := (blk_cell BO.out 4).trans rfl
  have hz4 := blk_frozen BO.out 4
  go_wp2_with fail
  clear hq3 hz3 hq4 hz4
  replace HRd := Aside0.mk ((HRd.out.set (b := W1.heap.size) (j := 3) (by omega) hOg (.int .i64 (prt l 4 2))).set (b := W1.heap.size) (j := 4) (by omega) hOg (.int .i64 (prt l 6 1)))
  replace BR := Aside0.mk (blk_far (blk_far BR.out (p := ⟨W1.heap.size, 3, none⟩) (by show w.heap.size ≠ W1.heap.size; omega) (.int .i64 (prt l 4 2))) (p := ⟨W1.heap.size, 4, none⟩) (by show w.heap.size ≠ W1.heap.size; omega) (.int .i64 (prt l 6 1)))
  replace BO := Aside0.mk (show _ = some (Obj.cells #[(.int .i64 (prt l 0 1)), (.int .i64 (prt l 1 2)), (.int .i64 (prt l 3 1)), (.int .i64 (prt l 4 2)), (.int .i64 (prt l 6 1)), (.int .i64 0), (.int .i64 0), (.int .i64 0), (.slice none 0 0)] 32 (0, 0)) from blk_put (blk_put BO.out 3 (.int .i64 (prt l 4 2)) rfl) 4 (.int .i64 (prt l 6 1)) rfl)
  refine (get_p w _ (w.heap.size + 1) _ 3 3 7 10 rfl rfl (by omega) HLEN.out (by omega) HRd.out).mono ?_
  rintro e W4 ⟨rfl, hr1, hk1⟩
  replace HRd := Aside0.mk hr1
  have HK := Aside0.mk hk1
  clear hr1 hk1
  replace BR := Aside0.mk (HK.out.blk BR.out (by omega) (by simp))
  replace BO := Aside0.mk (HK.out.blk BO.out hOg (by simp))
  clear HK
  have hq5 : W4.cell? ⟨W1.heap.size, 5, none⟩ = some (.int .i64 0) := (blk_cell BO.out 5).trans rfl
  have hz5 := blk_frozen BO.out 5
  go_wp2_with fail
  clear hq5 hz5
  replace HRd := Aside0.mk (HRd.out.set (b := W1.heap.size) (j := 5) (by omega) hOg (.int .i64 (prt l 7 3)))
  replace BR := Aside0.mk (blk_far BR.out (p := ⟨W1.heap.size, 5, none⟩) (by show w.heap.size ≠ W1.heap.size; omega) (.int .i64 (prt l 7 3)))
  replace BO := Aside0.mk (show _ = some (Obj.cells #[(.int .i64 (prt l 0 1)), (.int .i64 (prt l 1 2)), (.int .i64 (prt l 3 1)), (.int .i64 (prt l 4 2)), (.int .i64 (prt l 6 1)), (.int .i64 (prt l 7 3)), (.int .i64 0), (.int .i64 0), (.slice none 0 0)] 32 (0, 0)) from blk_put BO.out 5 (.int .i64 (prt l 7 3)) rfl)
  refine (get_p w _ (w.heap.size + 1) _ 1 1 10 11 rfl rfl (by omega) HLEN.out (by omega) HRd.out).mono ?_
  rintro e W5 ⟨rfl, hr1, hk1⟩
  replace HRd := Aside0.mk hr1
  have HK := Aside0.mk hk1
  clear hr1 hk1
  replace BR := Aside0.mk (HK.out.blk BR.out (by omega) (by simp))
  replace BO := Aside0.mk (HK.out.blk BO.out hOg (by simp))
  clear HK
  have hq6 : W5.cell? ⟨W1.heap.size, 6, none⟩ = some (.int .i64 0) := (blk_cell BO.out 6).trans rfl
  have hz6 := blk_frozen BO.out 6
  go_wp2_with fail
  clear hq6 hz6
  replace HRd := Aside0.mk (HRd.out.set (b := W1.heap.size) (j := 6) (by omega) hOg (.int .i64 (prt l 10 1)))
  replace BR := Aside0.mk (blk_far BR.out (p := ⟨W1.heap.size, 6, none⟩) (by show w.heap.size ≠ W1.heap.size; omega) (.int .i64 (prt l 10 1)))
  replace BO := Aside0.mk (show _ = some (Obj.cells #[(.int .i64 (prt l 0 1)), (.int .i64 (prt l 1 2)), (.int .i64 (prt l 3 1)), (.int .i64 (prt l 4 2)), (.int .i64 (prt l 6 1)), (.int .i64 (prt l 7 3)), (.int .i64 (prt l 10 1)), (.int .i64 0), (.slice none 0 0)] 32 (0, 0)) from blk_put BO.out 6 (.int .i64 (prt l 10 1)) rfl)
  refine (get_p w _ (w.heap.size + 1) _ 2 2 11 13 rfl rfl (by omega) HLEN.out (by omega) HRd.out).mono ?_
  rintro e W6 ⟨rfl, hr1, hk1⟩
  replace HRd := Aside0.mk hr1
  have HK := Aside0.mk hk1
  clear hr1 hk1
  replace BR := Aside0.mk (HK.out.blk BR.out (by omega) (by simp))
  replace BO := Aside0.mk (HK.out.blk BO.out hOg (by simp))
  clear HK
  have hq7 : W6.cell? ⟨W1.heap.size, 7, none⟩ = some (.int .i64 0) := (blk_cell BO.out 7).trans rfl
  have hz7 := blk_frozen BO.out 7
  go_wp2_with fail
  clear hq7 hz7
  replace HRd := Aside0.mk (HRd.out.set (b := W1.heap.size) (j := 7) (by omega) hOg (.int .i64 (prt l 11 2)))
  replace BR := Aside0.mk (blk_far BR.out (p := ⟨W1.heap.size, 7, none⟩) (by show w.heap.size ≠ W1.heap.size; omega) (.int .i64 (prt l 11 2)))
  replace BO := Aside0.mk (show _ = some (Obj.cells #[(.int .i64 (prt l 0 1)), (.int .i64 (prt l 1 2)), (.int .i64 (prt l 3 1)), (.int .i64 (prt l 4 2)), (.int .i64 (prt l 6 1)), (.int .i64 (prt l 7 3)), (.int .i64 (prt l 10 1)), (.int .i64 (prt l 11 2)), (.slice none 0 0)] 32 (0, 0)) from blk_put BO.out 7 (.int .i64 (prt l 11 2)) rfl)
  go_loopg [31] 4 (fun gk v31 wr => ∃ (k : Nat) (u : Value), v31 = .int .i64 (k : Int) ∧ Aside0 (k + gk = 4) ∧ Aside0 (RdL w wr (w.heap.size + 1) (l.drop (13 + 2 * k))) ∧ Aside0 (wr.heap[w.heap.size]? = some (.cells zero32 32 (0, 0))) ∧ Aside0 (wr.heap[W1.heap.size]? = some (.cells #[(.int .i64 (prt l 0 1)), (.int .i64 (prt l 1 2)), (.int .i64 (prt l 3 1)), (.int .i64 (prt l 4 2)), (.int .i64 (prt l 6 1)), (.int .i64 (prt l 7 3)), (.int .i64 (prt l 10 1)), (.int .i64 (prt l 11 2)), u] 32 (0, 0))) ∧ Aside0 (Kd.R (Kd.int .i64) 3 wr w.heap.size (fun _ => True) u (takeV l k)))
  case atStart => exact ⟨0, .slice none 0 0, rfl, ⟨rfl⟩, HRd, BR, BO, ⟨Kd.R_nil _ _ _ _ _⟩⟩
  case round =>
    obtain ⟨k, u, rfl, HG, HRk, BRk, BOk, HO⟩ := hrel
    clear HRd BR BO
    cases gk with
    | zero =>
      obtain rfl : k = 4 := by have := HG.out; omega
      obtain ⟨A, c, rfl, hcl, hC⟩ := Kd.R_reads HO.out
      have HC := Aside0.mk hC
      have HOP := Aside0.mk (fun W (z : Kd.C (Kd.int .i64) W A (takeV l 4).length (takeV l 4)) => Op_c (takeO l) A c (takeV l 4) W z hcl)
      rw [HB.out] at HOP
      have HOPU : takeO l = ⟨prt l 0 1, prt l 1 2, prt l 3 1, prt l 4 2, prt l 6 1, prt l 7 3, prt l 10 1, prt l 11 2⟩ := rfl
      rw [HOPU] at HOP HE
      clear HOPU hC
      have hq0 : wr.cell? ⟨W1.heap.size, 0, none⟩ = some (.int .i64 (prt l 0 1)) := (blk_cell BOk.out 0).trans rfl
      have hq1 : wr.cell? ⟨W1.heap.size, 1, none⟩ = some (.int .i64 (prt l 1 2)) := (blk_cell BOk.out 1).trans rfl
      have hq2 : wr.cell? ⟨W1.heap.size, 2, none⟩ = some (.int .i64 (prt l 3 1)) := (blk_cell BOk.out 2).trans rfl
      have hq3 : wr.cell? ⟨W1.heap.size, 3, none⟩ = some (.int .i64 (prt l 4 2)) := (blk_cell BOk.out 3).trans rfl
      have hq4 : wr.cell? ⟨W1.heap.size, 4, none⟩ = some (.int .i64 (prt l 6 1)) := (blk_cell BOk.out 4).trans rfl
      have hq5 : wr.cell? ⟨W1.heap.size, 5, none⟩ = some (.int .i64 (prt l 7 3)) := (blk_cell BOk.out 5).trans rfl
      have hq6 : wr.cell? ⟨W1.heap.size, 6, none⟩ = some (.int .i64 (prt l 10 1)) := (blk_cell BOk.out 6).trans rfl
      have hq7 : wr.cell? ⟨W1.heap.size, 7, none⟩ = some (.int .i64 (prt l 11 2)) := (blk_cell BOk.out 7).trans rfl
      have hq8 : wr.cell? ⟨W1.heap.size, 8, none⟩ = some (.slice A (takeV l 4).length c) := (blk_cell BOk.out 8).trans rfl
      go_wp2_with fail
      refine (HOP.out _ HC.out).mono ?_
      rintro e w5 ⟨rfl, hb5⟩
      have HB5 := Aside0.mk (below_then HRk.out.bel (below_size HRk.out.bel) hb5)
      have BO5 := Aside0.mk (blk_below BOk.out hb5)
      have BR5 := Aside0.mk (blk_below BRk.out hb5)
      have HO5 := Aside0.mk (Kd.R_below HO.out hb5)
      clear hb5 HOP HC HRk BOk BRk HO
      clear hq0 hq1 hq2 hq3 hq4 hq5 hq6 hq7 hq8
      cases b with
      | false =>
        have he := HE.out
        rw [if_neg (by simp)] at he
        simp only [Prod.mk.injEq] at he
        obtain ⟨rfl, rfl, rfl⟩ := he
        have hs0 : w5.cell? ⟨w.heap.size, 0, none⟩ = some (.int .i64 0) := (blk_cell BR5.out 0).trans rfl
        have ht0 := blk_frozen BR5.out 0
        have hs1 : w5.cell? ⟨w.heap.size, 1, none⟩ = some (.int .i64 0) := (blk_cell BR5.out 1).trans rfl
        have ht1 := blk_frozen BR5.out 1
        have hs2 : w5.cell? ⟨w.heap.size, 2, none⟩ = some (.int .i64 0) := (blk_cell BR5.out 2).trans rfl
        have ht2 := blk_frozen BR5.out 2
        have hs3 : w5.cell? ⟨w.heap.size, 3, none⟩ = some (.int .i64 0) := (blk_cell BR5.out 3).trans rfl
        have ht3 := blk_frozen BR5.out 3
        have hs4 : w5.cell? ⟨w.heap.size, 4, none⟩ = some (.int .i64 0) := (blk_cell BR5.out 4).trans rfl
        have ht4 := blk_frozen BR5.out 4
        have hs5 : w5.cell? ⟨w.heap.size, 5, none⟩ = some (.int .i64 0) := (blk_cell BR5.out 5).trans rfl
        have ht5 := blk_frozen BR5.out 5
        have hs6 : w5.cell? ⟨w.heap.size, 6, none⟩ = some (.int .i64 0) := (blk_cell BR5.out 6).trans rfl
        have ht6 := blk_frozen BR5.out 6
        have hs7 : w5.cell? ⟨w.heap.size, 7, none⟩ = some (.int .i64 0) := (blk_cell BR5.out 7).trans rfl
        have ht7 := blk_frozen BR5.out 7
        have hs8 : w5.cell? ⟨w.heap.size, 8, none⟩ = some (.slice none 0 0) := (blk_cell BR5.out 8).trans rfl
        have ht8 := blk_frozen BR5.out 8
        go_wp2_with fail
        refine bodyPost_ret (results_ct rfl _ _ w.heap.size 32 zero32 (0, 0) _ rfl ?_ Try.underlying32 rfl (by kernel_rfl)) rfl ⟨.slice none 0 0, rfl, Kd.R_nil _ _ _ _ _, ?_⟩
        · refine blk_put (cs := zero32) ?_ 8 _ rfl; refine blk_put (cs := zero32) ?_ 7 _ rfl; refine blk_put (cs := zero32) ?_ 6 _ rfl; refine blk_put (cs := zero32) ?_ 5 _ rfl; refine blk_put (cs := zero32) ?_ 4 _ rfl; refine blk_put (cs := zero32) ?_ 3 _ rfl; refine blk_put (cs := zero32) ?_ 2 _ rfl; refine blk_put (cs := zero32) ?_ 1 _ rfl; refine blk_put (cs := zero32) ?_ 0 _ rfl; exact BR5.out
        · exact below_set (below_set (below_set (below_set (below_set (below_set (below_set (below_set (below_set (HB5.out) (Nat.le_refl _)) (Nat.le_refl _)) (Nat.le_refl _)) (Nat.le_refl _)) (Nat.le_refl _)) (Nat.le_refl _)) (Nat.le_refl _)) (Nat.le_refl _)) (Nat.le_refl _)
      | true =>
        have he := HE.out
        rw [if_pos rfl] at he
        simp only [Prod.mk.injEq] at he
        obtain ⟨rfl, rfl, rfl⟩ := he
        have hr0 : w5.cell? ⟨W1.heap.size, 0, none⟩ = some (.int .i64 (prt l 0 1)) := (blk_cell BO5.out 0).trans rfl
        have hs0 : w5.cell? ⟨w.heap.size, 0, none⟩ = some (.int .i64 0) := (blk_cell BR5.out 0).trans rfl
        have ht0 := blk_frozen BR5.out 0
        have hr1 : w5.cell? ⟨W1.heap.size, 1, none⟩ = some (.int .i64 (prt l 1 2)) := (blk_cell BO5.out 1).trans rfl
        have hs1 : w5.cell? ⟨w.heap.size, 1, none⟩ = some (.int .i64 0) := (blk_cell BR5.out 1).trans rfl
        have ht1 := blk_frozen BR5.out 1
        have hr2 : w5.cell? ⟨W1.heap.size, 2, none⟩ = some (.int .i64 (prt l 3 1)) := (blk_cell BO5.out 2).trans rfl
        have hs2 : w5.cell? ⟨w.heap.size, 2, none⟩ = some (.int .i64 0) := (blk_cell BR5.out 2).trans rfl
        have ht2 := blk_frozen BR5.out 2
        have hr3 : w5.cell? ⟨W1.heap.size, 3, none⟩ = some (.int .i64 (prt l 4 2)) := (blk_cell BO5.out 3).trans rfl
        have hs3 : w5.cell? ⟨w.heap.size, 3, none⟩ = some (.int .i64 0) := (blk_cell BR5.out 3).trans rfl
        have ht3 := blk_frozen BR5.out 3
        have hr4 : w5.cell? ⟨W1.heap.size, 4, none⟩ = some (.int .i64 (prt l 6 1)) := (blk_cell BO5.out 4).trans rfl
        have hs4 : w5.cell? ⟨w.heap.size, 4, none⟩ = some (.int .i64 0) := (blk_cell BR5.out 4).trans rfl
        have ht4 := blk_frozen BR5.out 4
        have hr5 : w5.cell? ⟨W1.heap.size, 5, none⟩ = some (.int .i64 (prt l 7 3)) := (blk_cell BO5.out 5).trans rfl
        have hs5 : w5.cell? ⟨w.heap.size, 5, none⟩ = some (.int .i64 0) := (blk_cell BR5.out 5).trans rfl
        have ht5 := blk_frozen BR5.out 5
        have hr6 : w5.cell? ⟨W1.heap.size, 6, none⟩ = some (.int .i64 (prt l 10 1)) := (blk_cell BO5.out 6).trans rfl
        have hs6 : w5.cell? ⟨w.heap.size, 6, none⟩ = some (.int .i64 0) := (blk_cell BR5.out 6).trans rfl
        have ht6 := blk_frozen BR5.out 6
        have hr7 : w5.cell? ⟨W1.heap.size, 7, none⟩ = some (.int .i64 (prt l 11 2)) := (blk_cell BO5.out 7).trans rfl
        have hs7 : w5.cell? ⟨w.heap.size, 7, none⟩ = some (.int .i64 0) := (blk_cell BR5.out 7).trans rfl
        have ht7 := blk_frozen BR5.out 7
        have hr8 : w5.cell? ⟨W1.heap.size, 8, none⟩ = some (.slice A (takeV l 4).length c) := (blk_cell BO5.out 8).trans rfl
        have hs8 : w5.cell? ⟨w.heap.size, 8, none⟩ = some (.slice none 0 0) := (blk_cell BR5.out 8).trans rfl
        have ht8 := blk_frozen BR5.out 8
        go_wp2_with fail
        refine bodyPost_ret (results_ct rfl _ _ w.heap.size 32 #[(.int .i64 (prt l 0 1)), (.int .i64 (prt l 1 2)), (.int .i64 (prt l 3 1)), (.int .i64 (prt l 4 2)), (.int .i64 (prt l 6 1)), (.int .i64 (prt l 7 3)), (.int .i64 (prt l 10 1)), (.int .i64 (prt l 11 2)), (.slice A (takeV l 4).length c)] (0, 0) _ rfl (by refine blk_put (cs := #[(.int .i64 (prt l 0 1)), (.int .i64 (prt l 1 2)), (.int .i64 (prt l 3 1)), (.int .i64 (prt l 4 2)), (.int .i64 (prt l 6 1)), (.int .i64 (prt l 7 3)), (.int .i64 (prt l 10 1)), (.int .i64 (prt l 11 2)), (.slice none 0 0)]) ?_ 8 _ rfl; refine blk_put (cs := #[(.int .i64 (prt l 0 1)), (.int .i64 (prt l 1 2)), (.int .i64 (prt l 3 1)), (.int .i64 (prt l 4 2)), (.int .i64 (prt l 6 1)), (.int .i64 (prt l 7 3)), (.int .i64 (prt l 10 1)), (.int .i64 0), (.slice none 0 0)]) ?_ 7 _ rfl; refine blk_put (cs := #[(.int .i64 (prt l 0 1)), (.int .i64 (prt l 1 2)), (.int .i64 (prt l 3 1)), (.int .i64 (prt l 4 2)), (.int .i64 (prt l 6 1)), (.int .i64 (prt l 7 3)), (.int .i64 0), (.int .i64 0), (.slice none 0 0)]) ?_ 6 _ rfl; refine blk_put (cs := #[(.int .i64 (prt l 0 1)), (.int .i64 (prt l 1 2)), (.int .i64 (prt l 3 1)), (.int .i64 (prt l 4 2)), (.int .i64 (prt l 6 1)), (.int .i64 0), (.int .i64 0), (.int .i64 0), (.slice none 0 0)]) ?_ 5 _ rfl; refine blk_put (cs := #[(.int .i64 (prt l 0 1)), (.int .i64 (prt l 1 2)), (.int .i64 (prt l 3 1)), (.int .i64 (prt l 4 2)), (.int .i64 0), (.int .i64 0), (.int .i64 0), (.int .i64 0), (.slice none 0 0)]) ?_ 4 _ rfl; refine blk_put (cs := #[(.int .i64 (prt l 0 1)), (.int .i64 (prt l 1 2)), (.int .i64 (prt l 3 1)), (.int .i64 0), (.int .i64 0), (.int .i64 0), (.int .i64 0), (.int .i64 0), (.slice none 0 0)]) ?_ 3 _ rfl; refine blk_put (cs := #[(.int .i64 (prt l 0 1)), (.int .i64 (prt l 1 2)), (.int .i64 0), (.int .i64 0), (.int .i64 0), (.int .i64 0), (.int .i64 0), (.int .i64 0), (.slice none 0 0)]) ?_ 2 _ rfl; refine blk_put (cs := #[(.int .i64 (prt l 0 1)), (.int .i64 0), (.int .i64 0), (.int .i64 0), (.int .i64 0), (.int .i64 0), (.int .i64 0), (.int .i64 0), (.slice none 0 0)]) ?_ 1 _ rfl; refine blk_put (cs := #[(.int .i64 0), (.int .i64 0), (.int .i64 0), (.int .i64 0), (.int .i64 0), (.int .i64 0), (.int .i64 0), (.int .i64 0), (.slice none 0 0)]) ?_ 0 _ rfl;  exact BR5.out) Try.underlying32 rfl (by kernel_rfl)) rfl ⟨(.slice A (takeV l 4).length c), rfl, Kd.R_mono (Kd.R_far (p := ⟨w.heap.size, 8, none⟩) (Kd.R_far (p := ⟨w.heap.size, 7, none⟩) (Kd.R_far (p := ⟨w.heap.size, 6, none⟩) (Kd.R_far (p := ⟨w.heap.size, 5, none⟩) (Kd.R_far (p := ⟨w.heap.size, 4, none⟩) (Kd.R_far (p := ⟨w.heap.size, 3, none⟩) (Kd.R_far (p := ⟨w.heap.size, 2, none⟩) (Kd.R_far (p := ⟨w.heap.size, 1, none⟩) (Kd.R_far (p := ⟨w.heap.size, 0, none⟩) (Kd.R_types HO5.out BR5.out (by decide)) (fun _ hk => hk.2) _) (fun _ hk => hk.2) _) (fun _ hk => hk.2) _) (fun _ hk => hk.2) _) (fun _ hk => hk.2) _) (fun _ hk => hk.2) _) (fun _ hk => hk.2) _) (fun _ hk => hk.2) _) (fun _ hk => hk.2) _) (fun _ hk => trivial), below_set (below_set (below_set (below_set (below_set (below_set (below_set (below_set (below_set (HB5.out) (Nat.le_refl _)) (Nat.le_refl _)) (Nat.le_refl _)) (Nat.le_refl _)) (Nat.le_refl _)) (Nat.le_refl _)) (Nat.le_refl _)) (Nat.le_refl _)) (Nat.le_refl _)⟩
    | succ k1 =>
      have hk4 : k < 4 := by have := HG.out; omega
      have hLk : (takeV l k).length ≤ 10 := by simp [takeV]; omega
      go_wp2_with fail
      obtain ⟨w2, hw2⟩ : ∃ w2, w2 = wr.drew := ⟨_, rfl⟩
      have HR2 := Aside0.mk (show RdL w w2 (w.heap.size + 1) (l.drop (13 + 2 * k)) from hw2 ▸ HRk.out.step (below_drew HRk.out.bel) rfl)
      have BR2 := Aside0.mk (show w2.heap[w.heap.size]? = some (.cells zero32 32 (0, 0)) from hw2 ▸ blk_drew BRk.out)
      have BO2 := Aside0.mk (show w2.heap[W1.heap.size]? = some (.cells #[(.int .i64 (prt l 0 1)), (.int .i64 (prt l 1 2)), (.int .i64 (prt l 3 1)), (.int .i64 (prt l 4 2)), (.int .i64 (prt l 6 1)), (.int .i64 (prt l 7 3)), (.int .i64 (prt l 10 1)), (.int .i64 (prt l 11 2)), u] 32 (0, 0)) from hw2 ▸ blk_drew BOk.out)
      have HO2 := Aside0.mk (show Kd.R (Kd.int .i64) 3 w2 w.heap.size (fun _ => True) u (takeV l k) from hw2 ▸ Kd.R_drew HO.out)
      refine start_ (n := 8) (S := fun w' => w'.cell? ⟨W1.heap.size, 8, none⟩ = some u) (ds := [7]) #[false, false, false, false, false, false, false, false] (by kernel_rfl) rfl rfl (by rw [← hw2]; exact (blk_cell BO2.out 8).trans rfl) (fun hHeld => ?_)
      rw [← hw2] at hHeld ⊢
      clear hw2
      refine pure_ (i := 0) (N := some 33) (v := ?_) (a' := ?_) #[true, false, false, false, false, false, false, false] rfl rfl (by kernel_rfl) (fun _ _ _ h => h) (Or.inl ⟨by rfl, ?_⟩) ?_ ?_
      rotate_left
      · intro w'
        go_simp
        with_reducible rfl
      rotate_left
      · simp only [Act.put, List.setIfInBounds_toArray, List.set_cons_zero, List.set_cons_succ, i64_w, i32_w]
        rfl
      refine take_ (i := 1) (N := some 34) (v := ?_) (a' := ?_) #[true, true, false, false, false, false, false, false] rfl rfl (by kernel_rfl) (fun _ _ _ h => h) (Or.inl ⟨by rfl, ?_⟩) hHeld ?_ ?_
      rotate_left
      · rintro w' s0
        go_simp
        with_reducible rfl
      rotate_left
      · simp only [Act.put, List.setIfInBounds_toArray, List.set_cons_zero, List.set_cons_succ, i64_w, i32_w]
        rfl
      refine pure_ (i := 2) (N := some 35) (v := ?_) (a' := ?_) #[true, true, true, false, false, false, false, false] rfl rfl (by kernel_rfl) (fun _ _ _ h => h) (Or.inl ⟨by rfl, ?_⟩) ?_ ?_
      rotate_left
      · intro w'
        go_simp
        with_reducible rfl
      rotate_left
      · simp only [Act.put, List.setIfInBounds_toArray, List.set_cons_zero, List.set_cons_succ, i64_w, i32_w]
        rfl
      refine one_ (i := 3) (N := some 36) #[true, true, true, true, false, false, false, false] rfl rfl (by kernel_rfl) (by decide) (fun K hK => ?_)
      refine goes_ Try.func57 (by kernel_rfl) rfl #[.pointer (some ⟨w.heap.size + 1, 0, none⟩), .int .i64 2] (by rfl) rfl rfl (by (try simp only [List.map_toArray, List.map_cons, List.map_nil]); first | done | rfl) ?_
      refine (get_p w _ (w.heap.size + 1) l 2 2 (13 + 2 * k) (13 + 2 * (k + 1)) rfl (by omega) (by omega) HLEN.out (by omega) HR2.out).mono ?_
      rintro e w3 ⟨rfl, hr1, hk1⟩
      have HR3 := Aside0.mk hr1
      have BR3 := Aside0.mk (hk1.blk BR2.out (by omega) (by simp))
      have BO3 := Aside0.mk (hk1.blk BO2.out hOg (by simp))
      have HO3 := Aside0.mk (show Kd.R (Kd.int .i64) 3 w3 w.heap.size (fun _ => True) u (takeV l k) from by
        obtain ⟨s2, hs2⟩ := HR2.out.blk
        exact Kd.R_mono (Kd.R_keep (Kd.R_types HO2.out hs2 (by decide)) hk1 (fun _ hk => hk.2)) (fun _ _ => trivial))
      clear hr1 hk1
      refine ⟨_, rfl, ?_⟩
      refine hK.out _ _ ((blk_cell BO3.out 8).trans rfl) (fun hHeld => ?_)
      clear hK K
      refine norm_ (a' := ?_) ?_ ?_
      rotate_left
      · show Act.put _ (some 36) _ = _
        simp only [Act.put, List.setIfInBounds_toArray, List.set_cons_zero, List.set_cons_succ, i64_w, i32_w]
        rfl
      refine one_ (i := 4) (N := some 37) #[true, true, true, true, true, false, false, false] rfl rfl (by kernel_rfl) (by decide) (fun K hK => ?_)
      refine value_ (w1 := ?_) (v := ?_) (by rfl) rfl ?_ ?_
      rotate_left 2
      · go_simp
        constructor
        · rfl
        · rfl
      refine hK.out _ _ ((blk_cell (blk_alloc BO3.out _) 8).trans rfl) (fun hHeld => ?_)
      clear hK K
      refine norm_ (a' := ?_) ?_ ?_
      rotate_left
      · show Act.put _ (some 37) _ = _
        simp only [Act.put, List.setIfInBounds_toArray, List.set_cons_zero, List.set_cons_succ, i64_w, i32_w]
        rfl
      obtain ⟨Y, hY⟩ : ∃ Y : List Int, Y = takeV l k ++ [prt l (13 + 2 * k) 2] := ⟨_, rfl⟩
      have HY := Aside0.mk hY
      clear hY
      refine one_ (i := 5) (N := some 38) #[true, true, true, true, true, true, false, false] rfl rfl (by kernel_rfl) (by decide) (fun K hK => ?_)
      refine Kd.R_append_step (Kd.int .i64) (w0 := w) w.heap.size (by rfl) (.tmp 34) (.tmp 37) 30 3 (.int .i64 0) 8 rfl Try.underlying30 info_int rfl (by decide) (by omega) u (takeV l k) (prt l (13 + 2 * k) 2) [.int .i64 (prt l (13 + 2 * k) 2)] (fun _ => True) (fun _ => False) rfl rfl ?aP (fun _ hk => hk.elim) ?aF ?aO ?aB ?aS ?aL ?_
      (case aP => exact rfl)
      (case aB => exact HR3.out.bel)
      (case aF => exact (fun _ _ => trivial))
      (case aO => exact HO3.out)
      (case aS => exact below_size HR3.out.bel)
      (case aL => omega)
      intro v2 w4 ho hb hg hat
      rw [← HY.out] at ho
      have BO4 := Aside0.mk (blk_grown BO3.out hg (Kd.R_ne HO3.out BO3.out (by decide)))
      have BR4 := Aside0.mk (blk_grown BR3.out hg (Kd.R_ne HO3.out BR3.out (by decide)))
      have HR4 := Aside0.mk (show RdL w w4 (w.heap.size + 1) (l.drop (13 + 2 * (k + 1))) from by
        obtain ⟨s2, hs2⟩ := HR3.out.blk
        exact HR3.out.step hb (hg.block _ HR3.out.lt (Kd.R_ne HO3.out hs2 (by decide))))
      have HO4 := Aside0.mk ho
      clear ho hb hg hat
      obtain ⟨Ao, co, rfl⟩ := Kd.R_slice HO4.out
      refine hK.out _ _ ((blk_cell BO4.out 8).trans rfl) (fun hHeld => ?_)
      clear hK K
      refine norm_ (a' := ?_) ?_ ?_
      rotate_left
      · show Act.put _ (some 38) _ = _
        simp only [Act.put, List.setIfInBounds_toArray, List.set_cons_zero, List.set_cons_succ, i64_w, i32_w]
        rfl
      refine pure_ (i := 6) (N := some 39) (v := ?_) (a' := ?_) #[true, true, true, true, true, true, true, false] rfl rfl (by kernel_rfl) (fun _ _ _ h => h) (Or.inl ⟨by rfl, ?_⟩) ?_ ?_
      rotate_left
      · intro w'
        go_simp
        with_reducible rfl
      rotate_left
      · simp only [Act.put, List.setIfInBounds_toArray, List.set_cons_zero, List.set_cons_succ, i64_w, i32_w]
        rfl
      refine last_ (i := 7) (N := none) #[true, true, true, true, true, true, true, true] rfl rfl (by kernel_rfl) (by decide) (fun K hK => ?_)
      have hs : w4.cell? ⟨W1.heap.size, 8, none⟩ = some u := (blk_cell BO4.out 8).trans rfl
      have hfs := blk_frozen BO4.out 8
      refine skip_ (w1 := ?_) (by rfl) rfl ?_ ?_
      rotate_left
      · go_simp
        rfl
      refine hK.out _ _ ?_
      clear hK K
      refine done_ (by kernel_rfl) ?_
      go_wp2_with fail
      go_roundg k1
      case measure => omega
      case rel => exact ⟨k + 1, _, by go_num, ⟨by have := HG.out; omega⟩, ⟨HR4.out.set (b := W1.heap.size) (j := 8) (by omega) hOg _⟩, ⟨blk_far BR4.out (p := ⟨W1.heap.size, 8, none⟩) (by show w.heap.size ≠ W1.heap.size; omega) _⟩, ⟨show _ = some (Obj.cells #[(.int .i64 (prt l 0 1)), (.int .i64 (prt l 1 2)), (.int .i64 (prt l 3 1)), (.int .i64 (prt l 4 2)), (.int .i64 (prt l 6 1)), (.int .i64 (prt l 7 3)), (.int .i64 (prt l 10 1)), (.int .i64 (prt l 11 2)), (.slice Ao Y.length co)] 32 (0, 0)) from blk_put BO4.out 8 _ rfl⟩, ⟨by rw [takeV_snoc, ← HY.out]; exact Kd.R_mono (Kd.R_far (p := ⟨W1.heap.size, 8, none⟩) (Kd.R_types HO4.out BO4.out (by decide)) (fun _ hk => hk.2) _) (fun _ hk => trivial)⟩⟩
theorem takeF_size {s : ByteArray} (h : s.size ≠ 21) : takeF s = (zeroO, [], 9) := by unfold takeF; rw [if_neg h]
def codec_Take.f (a0 : ByteArray) : Option (Int × Int × Int × Int × Int × Int × Int × Int × List Int × Int) :=
  some ((takeF a0).1.kind, (takeF a0).1.time, (takeF a0).1.site_, (takeF a0).1.atime, (takeF a0).1.asite, (takeF a0).1.rune, (takeF a0).1.site, (takeF a0).1.n, (takeF a0).2.1, (takeF a0).2.2)
theorem codec_Take.calls (a0 : ByteArray) (r1 r2 r3 r4 r5 r6 r7 r8 : Int) (r9 : List Int) (r10 : Int) (w : World) (h : codec_Take.f a0 = some (r1, r2, r3, r4, r5, r6, r7, r8, r9, r10)) :
    Calls Try.prog 16 #[.string a0] w fun e w' => ∃ v8_ : Value, e = .returned (.tuple #[.agg #[.int .i64 r1, .int .i64 r2, .int .i64 r3, .int .i64 r4, .int .i64 r5, .int .i64 r6, .int .i64 r7, .int .i64 r8, v8_], .int .i64 r10]) ∧ Kd.R (Kd.int .i64) 3 w' w.heap.size (fun _ => True) v8_ r9 ∧ Below w.heap.size w w' := by
  have h0 := Option.some.inj h
  by_cases hs : a0.size = 21
  · have hF : takeF a0 = (if opB (takeO (bts a0)) (takeV (bts a0) 4) = true then (takeO (bts a0), takeV (bts a0) 4, 0) else (zeroO, [], 9)) := by unfold takeF; rw [if_pos hs]
    obtain ⟨b, hb⟩ : ∃ b, opB (takeO (bts a0)) (takeV (bts a0) 4) = b := ⟨_, rfl⟩
    rw [hb] at hF
    obtain ⟨o, v, r, hE⟩ : ∃ o v r, (if b = true then (takeO (bts a0), takeV (bts a0) 4, (0 : Int)) else (zeroO, [], 9)) = (o, v, r) := ⟨_, _, _, rfl⟩
    rw [hE] at hF
    rw [hF] at h0
    simp only [Prod.mk.injEq] at h0
    obtain ⟨rfl, rfl, rfl, rfl, rfl, rfl, rfl, rfl, rfl, rfl⟩ := h0
    exact take_yes a0 w hs b hb o v r hE
  · rw [takeF_size hs] at h0
    simp only [zeroO, Prod.mk.injEq] at h0
    obtain ⟨rfl, rfl, rfl, rfl, rfl, rfl, rfl, rfl, rfl, rfl⟩ := h0
    exact (take_no a0 w hs).mono fun e w' ⟨h1, h2⟩ => ⟨_, h1, Kd.R_nil _ _ _ _ _, h2⟩
end Go.Proofs.Ytimecfelcjgpiaa.F
