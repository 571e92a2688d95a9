/- text.Of: a text is taken apart. -/
import Derived.Test.YtfiapekpeiapbaaDoorMap
set_option linter.unusedVariables false
set_option linter.unusedSimpArgs false
namespace Go.Proofs.YtfiapekpeiapbaaDoor.F
open Go.RowKit Go.Proofs.YtfiapekpeiapbaaDoorW.PrintWords Go.Proofs.YtfiapekpeiapbaaDoorW.PrintLast Go.Proofs.YtfiapekpeiapbaaDoorW.PrintMore Go.Proofs.YtfiapekpeiapbaaDoor.Q

theorem info_int : (Tryd.prog.info? 3).map (fun i => (i.zero, i.size, i.bytes)) = some (some (.int .i64 0), 1, 8) := by kernel_rfl
theorem beginsF_snoc : ∀ (R : List Int) (c : Int) (i : Nat), beginsF (R ++ [c]) i = beginsF R i ++ (if c = 10 then [((i + R.length : Nat) : Int) + 1] else [])
  | [], c, i => by simp [beginsF]
  | x :: R, c, i => by
    have e : i + 1 + R.length = i + (R.length + 1) := by omega
    simp only [List.cons_append, beginsF, beginsF_snoc R c (i + 1), List.length_cons, e]
    split <;> simp
theorem beginsF_len : ∀ (R : List Int) (i : Nat), (beginsF R i).length ≤ R.length
  | [], i => by simp [beginsF]
  | x :: R, i => by
    have := beginsF_len R (i + 1)
    unfold beginsF
    split <;> simp <;> omega
theorem take_snoc_rd (R : List Int) (k : Nat) (h : k < R.length) : R.take (k + 1) = R.take k ++ [rd R (k : Int)] := by
  rw [List.take_succ_eq_append_getElem h]; simp [rd, List.getD_eq_getElem?_getD, h]
/-- What holds after k rounds. -/
structure OfInv (w1 W : World) (A0 : Option Addr) (c0 : Nat) (R : List Int) (k : Nat) (v : Value) : Prop where
  blk : W.heap[w1.heap.size + 1]? = some (.cells #[.slice A0 R.length c0, v] 89 (0, 0))
  own : Kd.R (Kd.int .i64) 3 W w1.heap.size (fun _ => True) v (begins (R.take k))
  bel : Below w1.heap.size w1 W
set_option maxHeartbeats 1000000 in
set_option maxRecDepth 100000 in
theorem text_Of.calls (a0 : ByteArray) (w : World) (hs : a0.size ≤ 4000) :
    Calls Tryd.prog 73 #[.string a0] w fun e w' => ∃ g : Nat, e = .returned (.pointer (some ⟨g, 0, none⟩)) ∧ IsMap w' g (runes a0.data.toList) (begins (runes a0.data.toList)) ∧ Below w.heap.size w w' := by
  have hcv : cv_9_52.f a0 = some (runes a0.data.toList) := if_pos (by omega)
  have hle := runes_length_le a0.data.toList
  have hsz : a0.data.toList.length = a0.size := by simp
  generalize runes a0.data.toList = R at *
  have hn : R.length ≤ 4000 := by omega
  clear hle hsz
  have HCV := Aside0.mk hcv
  have hu89 := Tryd.underlying89
  clear hcv
  go_enter Tryd.func73, Tryd.ntmps73
  go_wp2_with (first | ((with_reducible refine gate_dst (N := 7) rfl ?_); refine conv_ (some 7) rfl rfl (.string a0) rfl rfl ?_; refine (cv_9_52.calls a0 _ _ HCV.out).mono ?_; rintro e w1 ⟨v1, rfl, hR1, hb1⟩; refine ⟨_, rfl, ?_⟩; obtain ⟨A0, c0, rfl, hc0, hC⟩ := Kd.R_reads hR1; have HC := Aside0.mk hC; have HR1 := Aside0.mk hR1; have HB1 := Aside0.mk hb1; clear hR1 hb1 hC))
  go_loopg [16] (R.length + 1) (fun gk v16 W => ∃ (k : Nat) (v : Value), v16 = .int .i64 (k : Int) ∧ Aside0 (k + gk = R.length + 1) ∧ Aside0 (k ≤ R.length) ∧ Aside0 (OfInv w1 W A0 c0 R k v))
  case atStart =>
    refine ⟨0, .slice (some ⟨w1.heap.size, 0, none⟩) 1 1, rfl, ⟨by omega⟩, ⟨by omega⟩, ⟨?_, ?_, ?_⟩⟩
    · have := blk_new (w1.alloc (.cells #[.int .i64 0] 3)) (.cells #[.slice A0 R.length c0, .slice (some ⟨w1.heap.size, 0, none⟩) 1 1] 89 (0, 0))
      simpa using this
    · have := own_lit w1 w1.heap.size 3 .i64 [0] (Nat.le_refl _) (by simp)
      exact Kd.R_alloc (Kd.R_of_own (h1 := fun _ => rfl) (xs := [0]) (by simpa [nums, encs] using this) (fun _ _ => trivial)) _
    · exact below_alloc (below_alloc (Below.refl _ _) _) _
  case round =>
    obtain ⟨k, v, rfl, HG, HL, HI⟩ := hrel
    have hcR : wr.cell? ⟨w1.heap.size + 1, 0, none⟩ = some (.slice A0 R.length c0) := (blk_cell HI.out.blk 0).trans rfl
    have hcB : wr.cell? ⟨w1.heap.size + 1, 1, none⟩ = some v := (blk_cell HI.out.blk 1).trans rfl
    have hfB : wr.frozen? ⟨w1.heap.size + 1, 1, none⟩ = false := blk_frozen HI.out.blk 1
    cases gk with
    | zero => exact absurd HG.out (by have := HL.out; omega)
    | succ k1 =>
      by_cases c : k < R.length
      · obtain ⟨b, off, rfl, hcs⟩ := reads_nat (Kd.C_below HC.out HI.out.bel) (by omega)
        have hx := hcs k c
        clear hcs
        have HBL := Aside0.mk (show (begins (R.take k)).length ≤ k + 1 by have := beginsF_len (R.take k) 0; simp [begins] at *; omega)
        have HTS := Aside0.mk (take_snoc_rd R k c)
        by_cases cc : rd R (k : Int) = 10
        · have d3 : (rd R (k : Int) == 10) = true := beq_iff_eq.mpr cc
          have HBE := Aside0.mk (show begins (R.take (k + 1)) = begins (R.take k) ++ [(k : Int) + 1] by rw [HTS.out, begins, beginsF_snoc, if_pos cc, begins]; simp; omega)
          clear cc
          go_wp2_with (first | ((with_reducible refine gate_builtin (b := .append) (xs := #[.tmp 27, .tmp 30]) rfl ?_); at_builtin; refine Kd.R_append (Kd.int .i64) (w0 := w1) w1.heap.size rfl (.tmp 27) (.tmp 30) 43 3 (.int .i64 0) 8 rfl Tryd.underlying43 info_int rfl (by decide) (by omega) v (begins (R.take k)) ((k : Int) + 1) [.int .i64 ((k : Int) + 1)] (fun _ => True) (fun _ => False) rfl rfl ?aP (fun _ hk => hk.elim) ?aF ?aO ?aB ?aS ?aL ?_; (case aP => exact rfl); (case aB => exact HI.out.bel); (case aF => exact (fun _ _ => trivial)); (case aO => exact HI.out.own); (case aS => exact HI.out.bel.size); (case aL => have := HBL.out; omega); intro v2 w2 ho hb hg hat; obtain ⟨A2, c2, rfl, _, _⟩ := Kd.R_reads ho; have HBK2 := Aside0.mk (blk_grown HI.out.blk hg (Kd.R_ne HI.out.own HI.out.blk (by decide))); have HO2 := Aside0.mk ho; have HB2 := Aside0.mk hb; clear ho hb hg hat; have hcB2 : w2.cell? ⟨w1.heap.size + 1, 1, none⟩ = some v := (blk_cell HBK2.out 1).trans rfl; have hfB2 : w2.frozen? ⟨w1.heap.size + 1, 1, none⟩ = false := blk_frozen HBK2.out 1))
          go_roundg k1
          case measure => omega
          case rel => exact ⟨k + 1, _, by go_num, ⟨by have := HG.out; omega⟩, ⟨by omega⟩, ⟨⟨blk_put HBK2.out 1 _ rfl, by rw [HBE.out]; have z := Kd.R_set HO2.out HBK2.out (by decide) 1 (.slice A2 (begins (R.take k) ++ [(k : Int) + 1]).length c2); rw [List.length_append] at z; exact z, below_set HB2.out (by omega)⟩⟩⟩
        · have d3 : (rd R (k : Int) == 10) = false := beq_eq_false_iff_ne.mpr cc
          have HBE := Aside0.mk (show begins (R.take (k + 1)) = begins (R.take k) by rw [HTS.out, begins, beginsF_snoc, if_neg cc, begins]; simp)
          clear cc
          go_wp2
          go_roundg k1
          case measure => omega
          case rel => exact ⟨k + 1, v, by go_num, ⟨by have := HG.out; omega⟩, ⟨by omega⟩, ⟨⟨HI.out.blk, by rw [HBE.out]; exact HI.out.own, HI.out.bel⟩⟩⟩
      · have hj := HL.out
        obtain rfl : k = R.length := by omega
        have hI := HI.out
        go_wp2
        go_ret
        refine ⟨_, rfl, ?_, ?_⟩
        · obtain ⟨A1, c1, rfl, hl1, hC1⟩ := Kd.R_reads hI.own
          rw [List.take_length] at *
          refine ⟨hn, ?_, A0, c0, A1, c1, ?_, hc0, hl1, Kd.C_below HC.out hI.bel, hC1⟩
          · have := beginsF_len R 0; simp [begins]; omega
          · exact hI.blk
        · exact below_then HB1.out HB1.out.size hI.bel
end Go.Proofs.YtfiapekpeiapbaaDoor.F
