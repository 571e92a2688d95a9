/- regs.Yank, regs.Delete, regs.Get at what may be: contracts. -/
import Derived.Test.YtdoebjnfnmfnnaaDoorRgL
set_option linter.unusedVariables false
set_option linter.unusedSimpArgs false
namespace Go.Proofs.YtdoebjnfnmfnnaaDoor.F
open Go.RowKit Go.Lib Go.Shelf Go.Proofs.YtdoebjnfnmfnnaaDoorW.PrintWords Go.Proofs.YtdoebjnfnmfnnaaDoorW.PrintLast Go.Proofs.YtdoebjnfnmfnnaaDoorW.PrintMore Go.Proofs.YtdoebjnfnmfnnaaDoor.Q

def okN (n : Int) : Bool := decide (n = 0) || decide (n = 95) || (decide (97 ≤ n) && decide (n ≤ 122))
def yankL (l : List SR) (n : Int) (s : ByteArray) (q : Bool) : List SR := if n = 95 then l else if 97 ≤ n then namedL l n s q else setL nmR ⟨48, s, q⟩ (setL nmR ⟨34, s, q⟩ l)
def deleL (l : List SR) (n : Int) (s : ByteArray) (q : Bool) : List SR := if n = 95 then l else if 97 ≤ n then namedL l n s q else delW (setL nmR ⟨34, s, q⟩ l) s q
def regs_Yank.f (l0 : List SR) (a1 : Int) (a2 : ByteArray) (a3 : Bool) : Option (List SR × Int) := if mayR l0 && (okN a1 && mayB a2) then some (yankL l0 a1 a2 a3, 0) else none
def regs_Delete.f (l0 : List SR) (a1 : Int) (a2 : ByteArray) (a3 : Bool) : Option (List SR × Int) := if mayR l0 && (okN a1 && mayB a2) then some (deleL l0 a1 a2 a3, 0) else none
theorem okN_cases {n : Int} (h : okN n = true) : n = 0 ∨ n = 95 ∨ (97 ≤ n ∧ n ≤ 122) := by
  simp only [okN, Bool.or_eq_true, Bool.and_eq_true, decide_eq_true_eq] at h
  omega
section
variable (A0 : Option Addr) (c0 : Nat) (l : List SR) (s : ByteArray) (q : Bool) (w : World)
set_option maxHeartbeats 8000000 in
set_option maxRecDepth 100000 in
theorem yank_c (a : Int) (hC : Kd.C Ra.k113 w A0 l.length l) (hc0 : l.length ≤ c0) (hm : mayR l = true) (hn : okN a = true) (hs : mayB s = true) (hT : TabsOk w) :
    Calls Tryd.prog 64 #[.slice A0 l.length c0, .int .i64 a, .string s, .bool q] w fun e w' => ∃ v', e = .returned (.tuple #[v', .int .i64 0]) ∧
      w'.ownsRow w.heap.size 113 3 v' (yankL l a s q).length (flR (yankL l a s q)) ∧ Below w.heap.size w w' := by
  have HK : Aside0 (Calls Tryd.prog 106 #[.slice A0 l.length c0, .int .i64 a, .string s, .bool q, .func (.func 111) #[] #[]] w fun e w' => ∃ v', e = .returned (.tuple #[v', .int .i64 0]) ∧
      w'.ownsRow w.heap.size 113 3 v' (yankL l a s q).length (flR (yankL l a s q)) ∧ Below w.heap.size w w') := by
    refine ⟨?_⟩
    rcases okN_cases hn with rfl | rfl | ha
    · exact keep0_c A0 c0 l s q w 111 #[] (fun xs => setL nmR ⟨48, s, q⟩ xs) hC hc0 hm hs hT (fun _ _ => by rfl) (fun W v xs ho hk hb hbl => by
        rw [Array.append_empty]
        exact wayY_c v xs 34 s q W (w.heap.size + 1) ho (hk.more (by omega)) hb)
    · exact keepN_c A0 c0 l s q w 111 #[] hC hc0 hm hs hT
    · have e : yankL l a s q = namedL l a s q := by unfold yankL; rw [if_neg (by omega), if_pos (by omega)]
      rw [e]
      exact keepS_c A0 c0 l s q w 111 #[] a ha hC hc0 hm hs hT
  obtain ⟨r, hr⟩ : ∃ r, yankL l a s q = r := ⟨_, rfl⟩
  rw [hr] at HK ⊢
  clear hC hm hn hs hT hr
  go_enter Tryd.func64, Tryd.ntmps64
  go_wp2_with fail
  refine HK.out.mono ?_
  rintro e w6 ⟨v6, rfl, hown, hb⟩
  have HW := Aside0.mk hown
  have HB := Aside0.mk hb
  clear hown hb
  go_wp2_with fail
  go_ret2
  exact ⟨_, rfl, HW.out, HB.out⟩
set_option maxHeartbeats 8000000 in
set_option maxRecDepth 100000 in
theorem dele_c (a : Int) (hC : Kd.C Ra.k113 w A0 l.length l) (hc0 : l.length ≤ c0) (hm : mayR l = true) (hn : okN a = true) (hs : mayB s = true) (hT : TabsOk w) :
    Calls Tryd.prog 62 #[.slice A0 l.length c0, .int .i64 a, .string s, .bool q] w fun e w' => ∃ v', e = .returned (.tuple #[v', .int .i64 0]) ∧
      w'.ownsRow w.heap.size 113 3 v' (deleL l a s q).length (flR (deleL l a s q)) ∧ Below w.heap.size w w' := by
  obtain ⟨wa, hwa⟩ : ∃ wa, wa = (w.alloc (.cells #[.string s] 9)).alloc (.cells #[.bool q] 4) := ⟨_, rfl⟩
  have hBa : Below w.heap.size w wa := by rw [hwa]; exact below_alloc (below_alloc (Below.refl _ _) _) _
  have hsz : wa.heap.size = w.heap.size + 2 := by rw [hwa]; simp
  have hc1 : wa.cell? ⟨w.heap.size, 0, none⟩ = some (.string s) := by rw [hwa]; simp
  have hc2 : wa.cell? ⟨w.heap.size + 1, 0, none⟩ = some (.bool q) := by rw [hwa]; simp
  have hCa := Kd.C_below hC hBa
  have hTa := T_below hT hBa
  have HK : Aside0 (Calls Tryd.prog 106 #[.slice A0 l.length c0, .int .i64 a, .string s, .bool q, .func (.func 107) #[] #[.pointer (some ⟨w.heap.size + 1, 0, none⟩), .pointer (some ⟨w.heap.size, 0, none⟩)]] wa fun e w' => ∃ v', e = .returned (.tuple #[v', .int .i64 0]) ∧
      w'.ownsRow wa.heap.size 113 3 v' (deleL l a s q).length (flR (deleL l a s q)) ∧ Below wa.heap.size wa w') := by
    refine ⟨?_⟩
    rcases okN_cases hn with rfl | rfl | ha
    · exact keep0_c A0 c0 l s q wa 107 #[.pointer (some ⟨w.heap.size + 1, 0, none⟩), .pointer (some ⟨w.heap.size, 0, none⟩)] (fun xs => delW xs s q) hCa hc0 hm hs hTa (fun _ _ => by rfl) (fun W v xs ho hk hb hbl => by
        have g1 : W.cell? ⟨w.heap.size, 0, none⟩ = some (.string s) := (hbl.cell (p := ⟨w.heap.size, 0, none⟩) (by simp only; omega)).trans hc1
        have g2 : W.cell? ⟨w.heap.size + 1, 0, none⟩ = some (.bool q) := (hbl.cell (p := ⟨w.heap.size + 1, 0, none⟩) (by simp only; omega)).trans hc2
        rw [show (#[v, Value.agg #[.int .i64 34, .string s, .bool q]] ++ #[Value.pointer (some ⟨w.heap.size + 1, 0, none⟩), .pointer (some ⟨w.heap.size, 0, none⟩)] : Array Value) = #[v, .agg #[.int .i64 34, .string s, .bool q], .pointer (some ⟨w.heap.size + 1, 0, none⟩), .pointer (some ⟨w.heap.size, 0, none⟩)] from rfl]
        cases q with
        | true => exact wayD_true v xs 34 s W (wa.heap.size + 1) (w.heap.size + 1) w.heap.size ho (hk.more (by omega)) hb (by omega) g2
        | false => exact wayD_false v xs 34 s W (wa.heap.size + 1) (w.heap.size + 1) w.heap.size ho (hk.more (by omega)) hb (by omega) (by omega) g2 g1 (mayB_size hs))
    · exact keepN_c A0 c0 l s q wa 107 _ hCa hc0 hm hs hTa
    · have e : deleL l a s q = namedL l a s q := by unfold deleL; rw [if_neg (by omega), if_pos (by omega)]
      rw [e]
      exact keepS_c A0 c0 l s q wa 107 _ a ha hCa hc0 hm hs hTa
  obtain ⟨r, hr⟩ : ∃ r, deleL l a s q = r := ⟨_, rfl⟩
  rw [hr] at HK ⊢
  have HBA := Aside0.mk hBa
  have HWA := Aside0.mk hwa
  rw [hwa] at HK
  clear hC hm hn hs hT hr hBa hsz hc1 hc2 hCa hTa hwa
  go_enter Tryd.func62, Tryd.ntmps62
  go_wp2_with fail
  refine HK.out.mono ?_
  rintro e w6 ⟨v6, rfl, hown, hb⟩
  rw [← HWA.out] at hown hb
  have HW := Aside0.mk (own_weaken hown HBA.out.size)
  have HB := Aside0.mk (below_then HBA.out HBA.out.size hb)
  clear hown hb
  go_wp2_with fail
  go_ret2
  exact ⟨_, rfl, HW.out, HB.out⟩
end
theorem regs_Yank.calls (A0 : Option Addr) (c0 : Nat) (l0 : List SR) (a1 : Int) (a2 : ByteArray) (a3 : Bool) (r1 : List SR) (r2 : Int) (w : World) (hr0 : Kd.C Ra.k113 w A0 l0.length l0) (hc0 : l0.length ≤ c0) (hT : TabsOk w) (h : regs_Yank.f l0 a1 a2 a3 = some (r1, r2)) :
    Calls Tryd.prog 64 #[.slice A0 l0.length c0, .int .i64 a1, .string a2, .bool a3] w fun e w' => ∃ v0_ : Value, e = .returned (.tuple #[v0_, .int .i64 r2]) ∧ Kd.R Ra.k113 113 w' w.heap.size (fun _ => True) v0_ r1 ∧ Below w.heap.size w w' := by
  unfold regs_Yank.f at h
  by_cases c : (mayR l0 && (okN a1 && mayB a2)) = true
  · rw [if_pos c] at h
    simp only [Option.some.injEq, Prod.mk.injEq] at h
    obtain ⟨rfl, rfl⟩ := h
    simp only [Bool.and_eq_true] at c
    refine (yank_c A0 c0 l0 a2 a3 w a1 hr0 hc0 c.1 c.2.1 c.2.2 hT).mono ?_
    rintro e w' ⟨v', rfl, h1, h2⟩
    exact ⟨v', rfl, flR_R h1, h2⟩
  · rw [if_neg c] at h; cases h
theorem regs_Delete.calls (A0 : Option Addr) (c0 : Nat) (l0 : List SR) (a1 : Int) (a2 : ByteArray) (a3 : Bool) (r1 : List SR) (r2 : Int) (w : World) (hr0 : Kd.C Ra.k113 w A0 l0.length l0) (hc0 : l0.length ≤ c0) (hT : TabsOk w) (h : regs_Delete.f l0 a1 a2 a3 = some (r1, r2)) :
    Calls Tryd.prog 62 #[.slice A0 l0.length c0, .int .i64 a1, .string a2, .bool a3] w fun e w' => ∃ v0_ : Value, e = .returned (.tuple #[v0_, .int .i64 r2]) ∧ Kd.R Ra.k113 113 w' w.heap.size (fun _ => True) v0_ r1 ∧ Below w.heap.size w w' := by
  unfold regs_Delete.f at h
  by_cases c : (mayR l0 && (okN a1 && mayB a2)) = true
  · rw [if_pos c] at h
    simp only [Option.some.injEq, Prod.mk.injEq] at h
    obtain ⟨rfl, rfl⟩ := h
    simp only [Bool.and_eq_true] at c
    refine (dele_c A0 c0 l0 a2 a3 w a1 hr0 hc0 c.1 c.2.1 c.2.2 hT).mono ?_
    rintro e w' ⟨v', rfl, h1, h2⟩
    exact ⟨v', rfl, flR_R h1, h2⟩
  · rw [if_neg c] at h; cases h

/-! Get. -/
def getR (l : List SR) (n : Int) : Int × ByteArray × Bool × Int := if hasL nmR n l = true then ((rdR l (cntL nmR n l)).f0, (rdR l (cntL nmR n l)).f1, (rdR l (cntL nmR n l)).f2, 0) else (0, ⟨#[]⟩, false, 7)
def nmG (n : Int) : Int := if n = 0 then 34 else n
def regs_Get.f (l0 : List SR) (a1 : Int) : Option (Int × ByteArray × Bool × Int) := if mayR l0 && keptB (nmG a1) then some (getR l0 (nmG a1)) else none
end Go.Proofs.YtdoebjnfnmfnnaaDoor.F
