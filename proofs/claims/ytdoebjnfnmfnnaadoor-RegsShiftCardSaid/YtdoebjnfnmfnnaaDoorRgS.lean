/- slices.BinarySearchFunc, slices.IndexFunc at api.Mark: contracts; regs.find. -/
import Derived.Test.YtdoebjnfnmfnnaaDoorRgP
import Derived.Test.YtdoebjnfnmfnnaaDoorRIns
import Derived.Lib.SliceRun
import Derived.Laws.Cells
set_option linter.unusedVariables false
set_option linter.unusedSimpArgs false
namespace Go.Proofs.YtdoebjnfnmfnnaaDoor.F
open Go.RowKit Go.Lib Go.Shelf Go.Proofs.YtdoebjnfnmfnnaaDoorW.PrintWords Go.Proofs.YtdoebjnfnmfnnaaDoorW.PrintLast Go.Proofs.YtdoebjnfnmfnnaaDoorW.PrintMore Go.Proofs.YtdoebjnfnmfnnaaDoor.Q

def cR (m : SR) : List Value := [.int .i64 m.f0, .string m.f1, .bool m.f2]
def rdR (l : List SR) (j : Nat) : SR := l.getD j ⟨0, ⟨#[]⟩, false⟩
theorem rdR_get {l : List SR} {j : Nat} (h : j < l.length) : rdR l j = l[j] := by simp [rdR, List.getD_eq_getElem?_getD, h]
/-- A row of marks that is not empty: where its cells lie. -/
theorem readsR {w : World} {A : Option Addr} {xs : List SR} (h : Kd.C Ra.k113 w A xs.length xs) (h0 : 0 < xs.length) : ∃ b off, A = some ⟨b, off, none⟩ ∧ b < w.heap.size ∧
    ∀ j, j < xs.length → w.cell? ⟨b, off + j * 3, none⟩ = some (.int .i64 (rdR xs j).f0) ∧ w.cell? ⟨b, off + j * 3 + 1, none⟩ = some (.string (rdR xs j).f1) ∧ w.cell? ⟨b, off + j * 3 + 2, none⟩ = some (.bool (rdR xs j).f2) := by
  obtain ⟨ad, e, hc⟩ := h.2.2 h0
  have hall : ∀ j, j < xs.length → w.cell? (ad.add (j * 3)) = some (.int .i64 (rdR xs j).f0) ∧ w.cell? (ad.add (j * 3 + 1)) = some (.string (rdR xs j).f1) ∧ w.cell? (ad.add (j * 3 + 2)) = some (.bool (rdR xs j).f2) := by
    intro j hj
    obtain ⟨c, _, hK, hcc⟩ := hc j _ (List.getElem?_eq_getElem hj)
    obtain rfl := Ra.k113_open hK
    rw [rdR_get hj]
    exact ⟨hcc 0 _ rfl, hcc 1 _ rfl, hcc 2 _ rfl⟩
  obtain ⟨b, off, sp⟩ := ad
  cases sp with
  | none =>
    have ha : ∀ j, (⟨b, off, none⟩ : Addr).add j = ⟨b, off + j, none⟩ := fun j => by unfold Addr.add; split <;> simp_all
    refine ⟨b, off, e, ?_, fun j hj => ?_⟩
    · have := (hall 0 h0).1
      rw [ha] at this
      exact World.block_lt_of_cell? w _ this
    · have := hall j hj
      rw [ha, ha, ha, ← Nat.add_assoc, ← Nat.add_assoc] at this
      exact this
  | some s =>
    exfalso
    have := (hall 0 h0).1
    unfold World.cell? at this
    have ha : ((⟨b, off, some s⟩ : Addr).add (0 * 3)).spot.isSome = true := by unfold Addr.add; split <;> simp_all
    split at this
    · rw [if_pos ha] at this; cases this
    · cases this
theorem lenR {w : World} {A : Option Addr} {xs : List SR} (h : Kd.C Ra.k113 w A xs.length xs) : xs.length ≤ 9223372036854775807 := h.2.1

theorem cellsR {w W : World} {b off : Nat} {xs : List SR} (hb : b < w.heap.size) (hB : Below w.heap.size w W)
    (hc : ∀ j, j < xs.length → w.cell? ⟨b, off + j * 3, none⟩ = some (.int .i64 (rdR xs j).f0) ∧ w.cell? ⟨b, off + j * 3 + 1, none⟩ = some (.string (rdR xs j).f1) ∧ w.cell? ⟨b, off + j * 3 + 2, none⟩ = some (.bool (rdR xs j).f2)) (j : Nat) (hj : j < xs.length) :
    W.cell? ⟨b, off + j * 3, none⟩ = some (.int .i64 (rdR xs j).f0) ∧ W.cell? ⟨b, off + j * 3 + 1, none⟩ = some (.string (rdR xs j).f1) ∧ W.cell? ⟨b, off + j * 3 + 2, none⟩ = some (.bool (rdR xs j).f2) := by
  rw [hB.cell (p := ⟨b, off + j * 3, none⟩) hb, hB.cell (p := ⟨b, off + j * 3 + 1, none⟩) hb, hB.cell (p := ⟨b, off + j * 3 + 2, none⟩) hb]
  exact hc j hj

set_option maxRecDepth 100000 in
theorem find1_cR (a name : Int) (s : ByteArray) (q : Bool) (W : World) (h1 : 0 ≤ a) (h2 : a ≤ 1000) (h3 : 0 ≤ name) (h4 : name ≤ 1000) :
    Calls Tryd.prog 162 #[.agg #[.int .i64 a, .string s, .bool q], .int .i64 name] W fun e w' => e = .returned (.int .i64 (a - name)) ∧ Below W.heap.size W w' := by
  have hw : IntKind.i64.wrap (a - name) = a - name := by rw [IntKind.wrap_i64]; omega
  go_enter Tryd.func162, Tryd.ntmps162
  go_wp2
  go_ret
  exact ⟨rfl, below_alloc (Below.refl _ _) _⟩

set_option maxHeartbeats 4000000 in
set_option maxRecDepth 1000000 in
/-- slices.BinarySearchFunc: how many have a smaller name; whether that name is there. -/
theorem bs_cR (A : Option Addr) (c : Nat) (xs : List SR) (name : Int) (w : World) (hC : Kd.C Ra.k113 w A xs.length xs) (hs : Sor nmR xs) (hm : ∀ m ∈ xs, 0 ≤ m.f0 ∧ m.f0 ≤ 1000) (hn : 0 ≤ name ∧ name ≤ 1000) (hl : xs.length ≤ 1000) :
    Calls Tryd.prog 161 #[.slice A xs.length c, .int .i64 name, .func (.func 162) #[] #[]] w fun e w' =>
      e = .returned (.tuple #[.int .i64 (cntL nmR name xs : Nat), .bool (hasL nmR name xs)]) ∧ Below w.heap.size w w' := by
  have eg : ∀ args w, (callFunc 162 args).run Tryd.prog w = .ok (.enter 162 args) w := fun _ _ => by rfl
  have HS := Aside0.mk hs
  have HM := Aside0.mk hm
  have HC := Aside0.mk hC
  have HN := Aside0.mk hn
  obtain ⟨cnt, hcnt⟩ : ∃ q, cntL nmR name xs = q := ⟨_, rfl⟩
  obtain ⟨has, hhas⟩ : ∃ q, hasL nmR name xs = q := ⟨_, rfl⟩
  have CN := Aside0.mk hcnt
  have HA := Aside0.mk hhas
  rw [hcnt, hhas]
  clear hs hm hC hn hcnt hhas
  go_enter Tryd.func161, Tryd.ntmps161
  go_wp2
  go_loopg [9, 10] xs.length (fun kx s9 s10 wr => ∃ (lo hi : Nat) (W0 : World), s9 = .int .i64 lo ∧ s10 = .int .i64 hi ∧ W0 = wr ∧ lo ≤ hi ∧ hi ≤ xs.length ∧ hi - lo ≤ kx ∧ Aside0 (Below w.heap.size w wr) ∧
    Aside0 ((∀ t (h : t < xs.length), t < lo → nmR xs[t] < name) ∧ (∀ t (h : t < xs.length), hi ≤ t → name ≤ nmR xs[t])))
  case atStart => exact ⟨0, xs.length, _, rfl, rfl, rfl, Nat.zero_le _, Nat.le_refl _, by omega, ⟨Below.refl _ _⟩, ⟨⟨fun t _ ht => absurd ht (Nat.not_lt_zero _), fun t h1 h2 => by omega⟩⟩⟩
  case round =>
    obtain ⟨lo, hi, W0, rfl, rfl, rfl, hlh, hin, hg, HB, I⟩ := hrel
    by_cases hlt : lo < hi
    · obtain ⟨b, off, rfl, hb, hcs⟩ := readsR HC.out (by omega)
      have hmid : (lo + hi) / 2 < xs.length := by omega
      obtain ⟨l2, l3, l4⟩ := cellsR hb HB.out hcs ((lo + hi) / 2) hmid
      have hy := rdR_get hmid
      have hy2 := HM.out _ (List.getElem_mem hmid)
      obtain ⟨y, hyd⟩ : ∃ y, rdR xs ((lo + hi) / 2) = y := ⟨_, rfl⟩
      have Y := Aside0.mk (hy.symm.trans hyd)
      rw [hyd] at l2 l3 l4
      rw [← hy, hyd] at hy2
      have Hcall := Aside0.mk (fun W => find1_cR y.f0 name y.f1 y.f2 W (by omega) (by omega) (by have := HN.out; omega) (by have := HN.out; omega))
      obtain ⟨d, hd⟩ : ∃ d, y.f0 - name = d := ⟨_, rfl⟩
      rw [hd] at Hcall
      have HD := Aside0.mk hd
      clear hcs hy hy2 hyd hd hb
      by_cases hyx : d < 0
      · have dd : decide (d < 0) = true := decide_eq_true hyx
        go_wp2_with (go_at_fn 162; refine (Hcall.out _).mono ?_; rintro e w' ⟨rfl, hb'⟩; have HB2 := Aside0.mk hb'; clear hb')
        go_roundg (hi - ((lo + hi) / 2 + 1))
        case measure => omega
        case rel =>
          refine ⟨(lo + hi) / 2 + 1, hi, _, by rw [show ((lo : Int) + (hi : Int)) / 2 + 1 = (((lo + hi) / 2 + 1 : Nat) : Int) by omega], rfl, rfl, by omega, hin, Nat.le_refl _, ⟨below_then HB.out HB.out.size HB2.out⟩, ⟨⟨fun t ht h2 => ?_, I.out.2⟩⟩⟩
          have h3 := sor_le nmR HS.out (i := t) (j := (lo + hi) / 2) (by omega) (by omega)
          have h4 : nmR xs[(lo + hi) / 2] = y.f0 := by rw [Y.out]
          have := HD.out
          omega
      · have dd : decide (d < 0) = false := decide_eq_false hyx
        go_wp2_with (go_at_fn 162; refine (Hcall.out _).mono ?_; rintro e w' ⟨rfl, hb'⟩; have HB2 := Aside0.mk hb'; clear hb')
        go_roundg ((lo + hi) / 2 - lo)
        case measure => omega
        case rel =>
          refine ⟨lo, (lo + hi) / 2, _, rfl, by rw [show ((lo : Int) + (hi : Int)) / 2 = (((lo + hi) / 2 : Nat) : Int) by omega], rfl, by omega, by omega, Nat.le_refl _, ⟨below_then HB.out HB.out.size HB2.out⟩, ⟨⟨I.out.1, fun t ht h2 => ?_⟩⟩⟩
          have h3 := sor_le nmR HS.out (i := (lo + hi) / 2) (j := t) h2 ht
          have h4 : nmR xs[(lo + hi) / 2] = y.f0 := by rw [Y.out]
          have := HD.out
          omega
    · obtain rfl : hi = lo := by omega
      have ecnt : cnt = hi := by
        rw [← CN.out]
        exact cnt_at nmR name xs hi hin (fun t ht => I.out.1 t (by omega) ht) (fun t ht h2 => I.out.2 t ht h2)
      subst ecnt
      by_cases hn : cnt < xs.length
      · have HH := Aside0.mk ((has_in nmR name xs (by rw [CN.out]; exact hn)).symm.trans HA.out)
        obtain ⟨b, off, rfl, hb, hcs⟩ := readsR HC.out (by omega)
        obtain ⟨l2, l3, l4⟩ := cellsR hb HB.out hcs cnt hn
        have hy := rdR_get hn
        have hy2 := HM.out _ (List.getElem_mem hn)
        obtain ⟨y, hyd⟩ : ∃ y, rdR xs cnt = y := ⟨_, rfl⟩
        have Y := Aside0.mk (hy.symm.trans hyd)
        rw [hyd] at l2 l3 l4
        rw [← hy, hyd] at hy2
        have Hcall := Aside0.mk (fun W => find1_cR y.f0 name y.f1 y.f2 W (by omega) (by omega) (by have := HN.out; omega) (by have := HN.out; omega))
        obtain ⟨d, hd⟩ : ∃ d, y.f0 - name = d := ⟨_, rfl⟩
        rw [hd] at Hcall
        have HD := Aside0.mk hd
        have dl : decide (cnt < xs.length) = true := decide_eq_true hn
        have HE := Aside0.mk (show (d == 0) = has by
          have h1 := HH.out
          have h4 : nmR (xs[cntL nmR name xs]'(by rw [CN.out]; exact hn)) = y.f0 := by
            have : xs[cntL nmR name xs]'(by rw [CN.out]; exact hn) = xs[cnt] := by congr 1; exact CN.out
            rw [this, Y.out]
          rw [h4] at h1
          rw [← h1, ← HD.out]
          have e1 : (y.f0 - name == 0) = decide (y.f0 - name = 0) := rfl
          rw [e1]
          exact decide_eq_decide.2 ⟨fun h => by omega, fun h => by omega⟩)
        clear hcs hy hy2 hyd hd hb
        go_wp2_with (go_at_fn 162; refine (Hcall.out _).mono ?_; rintro e w' ⟨rfl, hb'⟩; have HB2 := Aside0.mk hb'; clear hb')
        go_ret2
        refine ⟨?_, below_then HB.out HB.out.size HB2.out⟩
        rw [← HE.out]
        rfl
      · have HH := Aside0.mk ((has_out nmR name xs (by rw [CN.out]; exact hn)).symm.trans HA.out)
        have dl : decide (cnt < xs.length) = false := decide_eq_false hn
        go_wp2
        go_ret2
        refine ⟨?_, HB.out⟩
        rw [← HH.out]
        rfl
theorem find_cR (A : Option Addr) (c : Nat) (xs : List SR) (name : Int) (w : World) (hC : Kd.C Ra.k113 w A xs.length xs) (hs : Sor nmR xs) (hm : ∀ m ∈ xs, 0 ≤ m.f0 ∧ m.f0 ≤ 1000) (hn : 0 ≤ name ∧ name ≤ 1000) (hl : xs.length ≤ 1000) :
    Calls Tryd.prog 115 #[.slice A xs.length c, .int .i64 name] w fun e w' =>
      e = .returned (.tuple #[.int .i64 (cntL nmR name xs : Nat), .bool (hasL nmR name xs)]) ∧ Below w.heap.size w w' := by
  have H := Aside0.mk (bs_cR A c xs name w hC hs hm hn hl)
  clear hC hs hm hn hl
  go_enter Tryd.func115, Tryd.ntmps115
  go_wp2_with (go_at_call 161; refine H.out.mono ?_; rintro e w' ⟨rfl, hb⟩; have HB := Aside0.mk hb; clear hb)
  go_ret2
  exact ⟨rfl, HB.out⟩
end Go.Proofs.YtdoebjnfnmfnnaaDoor.F
