/- text.Map and its methods: contracts. -/
import Derived.Test.YtfiapekpeiapbaaDoorBase
set_option linter.unusedVariables false
set_option linter.unusedSimpArgs false
namespace Go.Proofs.YtfiapekpeiapbaaDoor.F
open Go.RowKit Go.Proofs.YtfiapekpeiapbaaDoorW.PrintWords Go.Proofs.YtfiapekpeiapbaaDoorW.PrintLast Go.Proofs.YtfiapekpeiapbaaDoorW.PrintMore Go.Proofs.YtfiapekpeiapbaaDoor.Q

/-- A text taken apart lies in block g: its runes, where its rows begin. -/
def IsMap (w : World) (g : Nat) (R B : List Int) : Prop :=
  R.length ≤ 4000 ∧ B.length ≤ 4001 ∧ ∃ A0 c0 A1 c1, w.heap[g]? = some (.cells #[.slice A0 R.length c0, .slice A1 B.length c1] 89 (0, 0)) ∧ R.length ≤ c0 ∧ B.length ≤ c1 ∧ Kd.C (Kd.int .i32) w A0 R.length R ∧ Kd.C (Kd.int .i64) w A1 B.length B
theorem IsMap.below {w w1 : World} {g : Nat} {R B : List Int} (h : IsMap w g R B) (hb : Below w.heap.size w w1) : IsMap w1 g R B := by
  obtain ⟨h1, h2, A0, c0, A1, c1, hg, h3, h4, hR, hB⟩ := h
  have hlt : g < w.heap.size := (Array.getElem?_eq_some_iff.1 hg).1
  exact ⟨h1, h2, A0, c0, A1, c1, by rw [hb.block g hlt]; exact hg, h3, h4, Kd.C_below hR hb, Kd.C_below hB hb⟩
theorem IsMap.drewN {w : World} {g : Nat} {R B : List Int} (h : IsMap w g R B) (n : Nat) : IsMap (w.drewN n) g R B := h.below (pw_below_drewN (Below.refl _ _) n)

/-- Where the rows of runes begin, from offset i on. -/
def beginsF : List Int → Nat → List Int
  | [], _ => []
  | c :: cs, i => if c = 10 then ((i : Int) + 1) :: beginsF cs (i + 1) else beginsF cs (i + 1)
def begins (R : List Int) : List Int := 0 :: beginsF R 0

def rowL (B : List Int) (at_ : Int) : Nat → Nat → Nat
  | 0, j => j
  | n + 1, j => if j + 1 < B.length ∧ rd B ((j : Int) + 1) ≤ at_ then rowL B at_ n (j + 1) else j
/-- The row of an offset. -/
def rowOf (B : List Int) (at_ : Int) : Nat := rowL B at_ (B.length + 1) 0
theorem rowL_le (B : List Int) (at_ : Int) : ∀ n j, j ≤ B.length - 1 → rowL B at_ n j ≤ B.length - 1
  | 0, j, h => h
  | n + 1, j, h => by
    unfold rowL
    split
    · exact rowL_le B at_ n (j + 1) (by omega)
    · exact h

/-- A read slice of strings that is not empty: where its cells lie. -/
theorem reads_str {w : World} {A : Option Addr} {xs : List ByteArray} (h : Kd.C Kd.string w A xs.length xs) (h0 : 0 < xs.length) : ∃ b off, A = some ⟨b, off, none⟩ ∧ ∀ j, j < xs.length → w.cell? ⟨b, off + j, none⟩ = some (.string (xs.getD j ByteArray.empty)) := by
  have hr : ReadsOf Value.string ByteArray.empty w A xs.length xs := Kd.reads_of_C (enc := Value.string) (d := ByteArray.empty) (h1 := fun _ => rfl) h
  obtain ⟨ad, e, hc⟩ := hr.2.2 h0
  obtain ⟨b, off, sp⟩ := ad
  cases sp with
  | none => exact ⟨b, off, e, fun j hj => by
      have := hc j hj
      have ha : (⟨b, off, none⟩ : Addr).add j = ⟨b, off + j, none⟩ := by unfold Addr.add; split <;> simp_all
      rw [ha] at this
      exact this⟩
  | some s =>
    exfalso
    have := hc 0 h0
    unfold World.cell? at this
    have ha : ((⟨b, off, some s⟩ : Addr).add 0).spot.isSome = true := by unfold Addr.add; split <;> simp_all
    split at this
    · rw [if_pos ha] at this; cases this
    · cases this
/-- A read slice of whole numbers that is not empty: where its cells lie. -/
theorem reads_nat {w : World} {k : IntKind} {A : Option Addr} {xs : List Int} (h : Kd.C (Kd.int k) w A xs.length xs) (h0 : 0 < xs.length) : ∃ b off, A = some ⟨b, off, none⟩ ∧ ∀ j, j < xs.length → w.cell? ⟨b, off + j, none⟩ = some (.int k (rd xs (j : Int))) := by
  have hr : ReadsInt w k A xs.length xs := Kd.reads_of_C (enc := Value.int k) (d := (0 : Int)) (h1 := fun _ => rfl) h
  obtain ⟨ad, e, hc⟩ := hr.2.2 h0
  obtain ⟨b, off, sp⟩ := ad
  cases sp with
  | none => exact ⟨b, off, e, fun j hj => by
      have := hc j hj
      have ha : (⟨b, off, none⟩ : Addr).add j = ⟨b, off + j, none⟩ := by unfold Addr.add; split <;> simp_all
      rw [ha] at this
      simpa [rd] using this⟩
  | some s =>
    exfalso
    have := hc 0 h0
    unfold World.cell? at this
    have ha : ((⟨b, off, some s⟩ : Addr).add 0).spot.isSome = true := by unfold Addr.add; split <;> simp_all
    split at this
    · rw [if_pos ha] at this; cases this
    · cases this
theorem ret_i {k : IntKind} {a b : Int} (h : a = b) : Ending.returned (.int k a) = .returned (.int k b) := by rw [h]

set_option maxHeartbeats 1000000 in
set_option maxRecDepth 100000 in
theorem Map_Row.calls (w : World) (g : Nat) (R B : List Int) (at_ : Int) (h : IsMap w g R B) :
    Calls Tryd.prog 75 #[.pointer (some ⟨g, 0, none⟩), .int .i64 at_] w fun e w' => e = .returned (.int .i64 (rowOf B at_ : Nat)) ∧ Drawn0 w w' := by
  have Hm := Aside0.mk h
  clear h
  go_enter Tryd.func75, Tryd.ntmps75
  go_wp2
  go_loopg [5] (B.length + 1) (fun gk v w' => ∃ j : Nat, v = .int .i64 (j : Int) ∧ Aside0 (rowL B at_ gk j = rowOf B at_) ∧ Aside0 (j + gk = B.length + 1) ∧ Aside0 (j ≤ B.length) ∧ Drawn0 w w')
  case atStart => exact ⟨0, rfl, ⟨rfl⟩, ⟨by omega⟩, ⟨by omega⟩, Drawn0.refl _⟩
  case round =>
    obtain ⟨j, rfl, HA, HJ, HL, HD⟩ := hrel
    obtain ⟨nd, rfl⟩ := HD.out
    clear HD
    obtain ⟨hl1, hl2, A0, c0, A1, c1, hg, h3, h4, hR, hB⟩ := (Hm.out.drewN nd)
    have hcell : (w.drewN nd).cell? ⟨g, 1, none⟩ = some (.slice A1 B.length c1) := (blk_cell hg 1).trans rfl
    clear hg hR
    have hl2' := hl2
    cases gk with
    | zero => exact absurd HJ.out (by have := HL.out; omega)
    | succ k1 =>
      have H := HA.out
      clear HA
      unfold rowL at H
      by_cases c1 : j + 1 < B.length
      · obtain ⟨b, off, rfl, hcs⟩ := reads_nat hB (by omega)
        have hc := hcs (j + 1) c1
        clear hcs
        have e0 : (((j + 1 : Nat) : Int)) = (j : Int) + 1 := by omega
        rw [e0] at hc
        clear e0
        have d1 : decide ((j : Int) + 1 < (B.length : Int)) = true := decide_eq_true (by omega)
        have p1 : 0 ≤ (j : Int) + 1 := by omega
        have p2 : (j : Int) + 1 < (B.length : Int) := by omega
        by_cases c2 : rd B ((j : Int) + 1) ≤ at_
        · have d2 : decide (rd B ((j : Int) + 1) ≤ at_) = true := decide_eq_true c2
          rw [if_pos ⟨c1, c2⟩] at H
          have H' := Aside0.mk H
          clear H c1 c2 hB
          go_wp2
          go_roundg k1
          case measure => omega
          case rel => exact ⟨j + 1, by go_num, H', ⟨by have := HJ.out; omega⟩, ⟨by omega⟩, by repeat (first | exact Drawn0.refl _ | apply Drawn0.step)⟩
        · have d2 : decide (rd B ((j : Int) + 1) ≤ at_) = false := decide_eq_false c2
          rw [if_neg (by omega)] at H
          have H' := Aside0.mk H
          clear H c1 c2 hB
          go_wp2
          go_ret
          exact ⟨ret_i (by rw [H'.out]), by repeat (first | exact Drawn0.refl _ | apply Drawn0.step)⟩
      · have d1 : decide ((j : Int) + 1 < (B.length : Int)) = false := decide_eq_false (by omega)
        have d2 : decide (j + 1 < B.length) = false := decide_eq_false c1
        have hj := HL.out
        rw [if_neg (by omega)] at H
        have H' := Aside0.mk H
        clear H c1 hB
        go_wp2
        go_ret
        exact ⟨ret_i (by rw [H'.out]), by repeat (first | exact Drawn0.refl _ | apply Drawn0.step)⟩

/-- Where a row ends. -/
def endOf (R B : List Int) (row : Nat) : Int := if row + 1 < B.length then rd B ((row : Int) + 1) - 1 else R.length
def Fit (R B : List Int) : Prop := ∀ j : Nat, j < B.length → 0 ≤ rd B (j : Int) ∧ rd B (j : Int) ≤ R.length

set_option maxHeartbeats 1000000 in
set_option maxRecDepth 100000 in
theorem Map_End.calls (w : World) (g : Nat) (R B : List Int) (row : Nat) (h : IsMap w g R B) (hf : Fit R B) (hr : row < B.length) :
    Calls Tryd.prog 76 #[.pointer (some ⟨g, 0, none⟩), .int .i64 (row : Int)] w fun e w' => e = .returned (.int .i64 (endOf R B row)) ∧ w' = w := by
  have hl2 := h.2.1
  have hl1 := h.1
  obtain ⟨A0, c0, A1, c1, hg, h3, h4, hR, hB⟩ := h.2.2
  have hcell : w.cell? ⟨g, 1, none⟩ = some (.slice A1 B.length c1) := (blk_cell hg 1).trans rfl
  have hcell0 : w.cell? ⟨g, 0, none⟩ = some (.slice A0 R.length c0) := (blk_cell hg 0).trans rfl
  clear hg hR h
  by_cases c : row + 1 < B.length
  · obtain ⟨b, off, rfl, hcs⟩ := reads_nat hB (by omega)
    have hc := hcs (row + 1) c
    have hv := hf (row + 1) c
    clear hcs hf hB
    have e0 : (((row + 1 : Nat) : Int)) = (row : Int) + 1 := by omega
    rw [e0] at hc hv
    clear e0
    have hv1 := hv.1
    have hv2 := hv.2
    clear hv
    have E : endOf R B row = rd B ((row : Int) + 1) - 1 := if_pos c
    have EE := Aside0.mk E
    clear E
    go_enter Tryd.func76, Tryd.ntmps76
    go_wp2
    go_ret
    exact ⟨ret_i EE.out.symm, rfl⟩
  · have E : endOf R B row = R.length := if_neg c
    have EE := Aside0.mk E
    have d2 : decide (row + 1 < B.length) = false := decide_eq_false c
    clear E hf hB
    go_enter Tryd.func76, Tryd.ntmps76
    go_wp2
    go_ret
    exact ⟨ret_i EE.out.symm, rfl⟩

set_option maxHeartbeats 1000000 in
set_option maxRecDepth 100000 in
theorem Map_Is.calls (w : World) (g : Nat) (R B : List Int) (at_ : Int) (h : IsMap w g R B) :
    Calls Tryd.prog 74 #[.pointer (some ⟨g, 0, none⟩), .int .i64 at_] w fun e w' => e = .returned (.bool (decide (0 ≤ at_ ∧ at_ ≤ R.length))) ∧ w' = w := by
  have hl1 := h.1
  obtain ⟨A0, c0, A1, c1, hg, h3, h4, hR, hB⟩ := h.2.2
  have hcell0 : w.cell? ⟨g, 0, none⟩ = some (.slice A0 R.length c0) := (blk_cell hg 0).trans rfl
  clear hg hR h hB
  by_cases c : 0 ≤ at_
  · by_cases c2 : at_ ≤ R.length
    · have E := Aside0.mk (decide_eq_true (show 0 ≤ at_ ∧ at_ ≤ (R.length : Int) from ⟨c, c2⟩))
      go_enter Tryd.func74, Tryd.ntmps74
      go_wp2
      go_ret
      exact ⟨by first | rfl | (rw [E.out] <;> rfl), rfl⟩
    · have E := Aside0.mk (decide_eq_false (show ¬ (0 ≤ at_ ∧ at_ ≤ (R.length : Int)) from fun z => c2 z.2))
      have d : decide (at_ ≤ (R.length : Int)) = false := decide_eq_false c2
      go_enter Tryd.func74, Tryd.ntmps74
      go_wp2
      go_ret
      exact ⟨by first | rfl | (rw [E.out] <;> rfl), rfl⟩
  · have E := Aside0.mk (decide_eq_false (show ¬ (0 ≤ at_ ∧ at_ ≤ (R.length : Int)) from fun z => c z.1))
    have d : decide (0 ≤ at_) = false := decide_eq_false c
    go_enter Tryd.func74, Tryd.ntmps74
    go_wp2
    go_ret
    exact ⟨by first | rfl | (rw [E.out] <;> rfl), rfl⟩

set_option maxHeartbeats 1000000 in
set_option maxRecDepth 100000 in
theorem Map_Rows.calls (w : World) (g : Nat) (R B : List Int) (h : IsMap w g R B) :
    Calls Tryd.prog 94 #[.pointer (some ⟨g, 0, none⟩)] w fun e w' => e = .returned (.int .i64 (B.length : Nat)) ∧ w' = w := by
  have hl1 := h.2.1
  obtain ⟨A0, c0, A1, c1, hg, h3, h4, hR, hB⟩ := h.2.2
  have hcell0 : w.cell? ⟨g, 1, none⟩ = some (.slice A1 B.length c1) := (blk_cell hg 1).trans rfl
  clear hg hR h hB
  go_enter Tryd.func94, Tryd.ntmps94
  go_wp2
  go_ret
  exact ⟨rfl, rfl⟩

theorem PW_add_add (a : Addr) (i j : Nat) : (a.add i).add j = a.add (i + j) := by
  unfold Addr.add
  by_cases hi : i = 0 <;> by_cases hj : j = 0 <;> simp [hi, hj, Nat.add_assoc]
theorem reads_cut {w : World} {k : IntKind} {A : Option Addr} {n : Nat} {xs : List Int} (h : ReadsInt w k A n xs) (lo hi : Nat) (h1 : lo ≤ hi) (h2 : hi ≤ n) (ad : Addr) (e : A = some ad) : ReadsInt w k (some (ad.add lo)) (hi - lo) ((xs.drop lo).take (hi - lo)) := by
  subst e
  refine ⟨by have := h.1; simp; omega, by have := h.2.1; omega, fun h0 => ⟨_, rfl, fun j hj => ?_⟩⟩
  obtain ⟨ad', e', hc⟩ := h.2.2 (by omega)
  cases e'
  have := hc (lo + j) (by omega)
  rw [PW_add_add, this]
  have hx : lo + j < xs.length := by have := h.1; omega
  simp [List.getD_eq_getElem?_getD, List.getElem?_take, hj]

theorem load_runes' {P : Program} {w : World} {A : Option Addr} {c n : Nat} {xs : List Int} {src dst e : TypeId} (hs : P.underlying src = some (.slice e)) (he : P.underlying e = some (.int .i32)) (hd : P.underlying dst = some .string)
    (h : ReadsInt w .i32 A n xs) : (convert src dst (.slice A n c)).run P w = .ok (.string (runesBytes xs)) w := by
  obtain rfl := h.1
  exact load_runes hs he hd h
theorem conv_cut {P : Program} {w : World} {A : Option Addr} {c : Nat} {xs : List Int} {lo hi : Nat} {src dst e : TypeId} (hs : P.underlying src = some (.slice e)) (he : P.underlying e = some (.int .i32)) (hd : P.underlying dst = some .string)
    (h : ReadsInt w .i32 A xs.length xs) (h1 : lo ≤ hi) (h2 : hi ≤ xs.length) :
    (convert src dst (.slice (Option.map (fun x => x.add lo) A) (hi - lo) c)).run P w = .ok (.string (runesBytes ((xs.drop lo).take (hi - lo)))) w := by
  rcases A with _ | ad
  · have h0 : xs.length = 0 := by
      rcases Nat.eq_zero_or_pos xs.length with h0 | h0
      · exact h0
      · obtain ⟨ad, e, _⟩ := h.2.2 h0; cases e
    have h3 : hi - lo = 0 := by omega
    rw [h3, List.take_zero]
    exact run_convert_runes_nil w src dst e _ _ hs he hd
  · exact load_runes' hs he hd (reads_cut h lo hi h1 h2 ad rfl)
theorem conv_empty {P : Program} {w : World} {A : Option Addr} {c : Nat} {src dst e : TypeId} (hs : P.underlying src = some (.slice e)) (he : P.underlying e = some (.int .i32)) (hd : P.underlying dst = some .string) :
    (convert src dst (.slice A 0 c)).run P w = .ok (.string (runesBytes [])) w :=
  load_runes (xs := []) (c := c) hs he hd ⟨rfl, by simp, fun h => absurd h (by simp)⟩

set_option maxHeartbeats 1000000 in
set_option maxRecDepth 100000 in
theorem Map_Cut.calls (w : World) (g : Nat) (R B : List Int) (lo hi : Nat) (h : IsMap w g R B) (h1 : lo ≤ hi) (h2 : hi ≤ R.length) :
    Calls Tryd.prog 95 #[.pointer (some ⟨g, 0, none⟩), .int .i64 (lo : Int), .int .i64 (hi : Int)] w fun e w' => e = .returned (.string (runesBytes ((R.drop lo).take (hi - lo)))) ∧ w' = w := by
  have hl1 := h.1
  obtain ⟨A0, c0, A1, c1, hg, h3, h4, hR, hB⟩ := h.2.2
  have hcell0 : w.cell? ⟨g, 0, none⟩ = some (.slice A0 R.length c0) := (blk_cell hg 0).trans rfl
  have hr : ReadsInt w .i32 A0 R.length R := Kd.reads_of_C (enc := Value.int .i32) (d := (0 : Int)) (h1 := fun _ => rfl) hR
  have hcv := fun c => conv_cut (P := Tryd.prog) (c := c) Tryd.underlying52 Tryd.underlying21 Tryd.underlying9 hr h1 h2
  have hce := fun A c => conv_empty (P := Tryd.prog) (w := w) (A := A) (c := c) Tryd.underlying52 Tryd.underlying21 Tryd.underlying9
  clear hg hR h hB hr
  by_cases hcl : c0 = lo
  · obtain rfl : lo = R.length := by omega
    obtain rfl : hi = R.length := by omega
    subst hcl
    have E : (List.drop R.length R).take (R.length - R.length) = [] := by simp
    have EE := Aside0.mk E
    clear E hcv
    go_enter Tryd.func95, Tryd.ntmps95
    go_wp2
    go_ret
    exact ⟨by rw [EE.out] <;> rfl, rfl⟩
  · clear hce
    go_enter Tryd.func95, Tryd.ntmps95
    go_wp2
    go_ret
    exact ⟨rfl, rfl⟩
end Go.Proofs.YtfiapekpeiapbaaDoor.F
