/- regs.Get at what may be: contract. -/
import Derived.Test.YtdoebjnfnmfnnaaDoorRgM
set_option linter.unusedVariables false
set_option linter.unusedSimpArgs false
namespace Go.Proofs.YtdoebjnfnmfnnaaDoor.F
open Go.RowKit Go.Lib Go.Shelf Go.Proofs.YtdoebjnfnmfnnaaDoorW.PrintWords Go.Proofs.YtdoebjnfnmfnnaaDoorW.PrintLast Go.Proofs.YtdoebjnfnmfnnaaDoorW.PrintMore Go.Proofs.YtdoebjnfnmfnnaaDoor.Q
section
variable (A0 : Option Addr) (c0 : Nat) (l : List SR) (w : World)
set_option maxHeartbeats 8000000 in
set_option maxRecDepth 100000 in
theorem get_c (a n : Int) (hn : nmG a = n) (hC : Kd.C Ra.k113 w A0 l.length l) (hc0 : l.length ≤ c0) (hm : mayR l = true) (hk : keptB n = true) (hT : TabsOk w) (r1 : Int) (r2 : ByteArray) (r3 : Bool) (r4 : Int) (hr : getR l n = (r1, r2, r3, r4)) :
    Calls Tryd.prog 65 #[.slice A0 l.length c0, .int .i64 a] w fun e w' => e = .returned (.tuple #[.agg #[.int .i64 r1, .string r2, .bool r3], .int .i64 r4]) ∧ Below w.heap.size w w' := by
  obtain ⟨wa, hwa⟩ : ∃ wa, wa = w.alloc (.cells #[.int .i64 0, .string ⟨#[]⟩, .bool false] 113) := ⟨_, rfl⟩
  have hBa : Below w.heap.size w wa := by rw [hwa]; exact below_alloc (Below.refl _ _) _
  have hsz : wa.heap.size = w.heap.size + 1 := by rw [hwa]; simp
  have hxa : wa.heap[w.heap.size]? = some (.cells #[.int .i64 0, .string ⟨#[]⟩, .bool false] 113 (0, 0)) := by rw [hwa]; exact heap_alloc_new w _
  have HM := Aside0.mk (hm ▸ Mays_cR A0 c0 l wa (Kd.C_below hC hBa) hc0 (T_below hT hBa))
  have hbd := kept_bd hk
  have hok := ok_of hm
  have HF := Aside0.mk (fun W (hb : Below wa.heap.size wa W) => find_cR A0 c0 l n W (Kd.C_below (Kd.C_below hC hBa) hb) hok.1 hok.2.1 (by omega) (by have := hok.2.2; omega))
  have HC := Aside0.mk hC
  have HR0 := Aside0.mk hr
  obtain ⟨j, hj⟩ : ∃ j, cntL nmR n l = j := ⟨_, rfl⟩
  have HBA := Aside0.mk hBa
  have HSZ := Aside0.mk hsz
  have HXA := Aside0.mk hxa
  have HWA := Aside0.mk hwa
  have HGR : 97 ≤ n ∨ n < 65 := by
    simp only [keptB, Bool.or_eq_true, Bool.and_eq_true, decide_eq_true_eq] at hk
    omega
  have HG := Aside0.mk (fun W => great_c n W (by omega))
  have HNM := Aside0.mk (fun W => (show Calls Tryd.prog 113 #[.int .i64 n] W fun e w' => e = .returned (.bool true) ∧ Drawn0 W w' from Ra.regs_Named.calls n true W (by
    unfold Ra.regs_Named.f
    rw [kept_f, Option.bind_some, if_pos hk])))
  have dn0 : (n != 0) = true := bne_iff_ne.2 (by omega)
  have dn1 : (n == 0) = false := beq_eq_false_iff_ne.2 (by omega)
  rw [HWA.out] at HM
  cases hh : hasL nmR n l with
  | true =>
    have hjl := has_lt hh
    rw [hj] at hjl
    have hre : getR l n = ((rdR l j).f0, (rdR l j).f1, (rdR l j).f2, 0) := by unfold getR; rw [if_pos hh, hj]
    have HE := Aside0.mk (hre.symm.trans hr)
    rw [hh, hj] at HF
    obtain ⟨b, off, rfl, hb, hcs⟩ := readsR hC (by omega)
    obtain ⟨m0, m1, m2⟩ := hcs j hjl
    have HC3 := Aside0.mk (fun W (h : Below w.heap.size w W) => cellsR hb h hcs j hjl)
    have hbn : b ≠ w.heap.size := by omega
    have pj : (j : Int) < (l.length : Int) := by omega
    have hjb : j < l.length := hjl
    clear hC hm hT hr hwa hBa hsz hxa hok hbd hk hh hj hjl hre hcs m0 m1 m2 HGR
    by_cases ca : a = 0
    · subst ca
      have hn34 : n = 34 := hn.symm
      subst hn34
      clear hn dn0 dn1
      go_enter Tryd.func65, Tryd.ntmps65
      go_wp2_with fail
      refine HM.out.mono ?_
      rintro e w1 ⟨rfl, hb1⟩
      rw [← HWA.out] at hb1
      have HB1 := Aside0.mk hb1
      clear hb1
      go_wp2_with fail
      refine (HF.out _ HB1.out).mono ?_
      rintro e w3 ⟨rfl, hb3⟩
      have HB3 := Aside0.mk (below_then HB1.out HB1.out.size hb3)
      have HX := Aside0.mk ((HB3.out.block w.heap.size (by have := HSZ.out; omega)).trans HXA.out)
      obtain ⟨m0, m1, m2⟩ := HC3.out w3 (below_then HBA.out HBA.out.size HB3.out)
      have x0 : w3.cell? ⟨w.heap.size, 0, none⟩ = some (.int .i64 0) := by rw [cell_row HX.out]; rfl
      have x1 : w3.cell? ⟨w.heap.size, 1, none⟩ = some (.string ⟨#[]⟩) := by rw [cell_row HX.out]; rfl
      have x2 : w3.cell? ⟨w.heap.size, 2, none⟩ = some (.bool false) := by rw [cell_row HX.out]; rfl
      have z0 : w3.frozen? ⟨w.heap.size, 0, none⟩ = false := by simp [World.frozen?, HX.out]
      have z1 : w3.frozen? ⟨w.heap.size, 1, none⟩ = false := by simp [World.frozen?, HX.out]
      have z2 : w3.frozen? ⟨w.heap.size, 2, none⟩ = false := by simp [World.frozen?, HX.out]
      clear hb3
      go_wp2_with fail
      refine bodyPost_ret (results_ct rfl _ _ w.heap.size 113 #[.int .i64 (rdR l j).f0, .string (rdR l j).f1, .bool (rdR l j).f2] (0, 0) _ rfl (by refine blk_put (cs := #[.int .i64 (rdR l j).f0, .string (rdR l j).f1, .bool false]) ?_ 2 _ rfl; refine blk_put (cs := #[.int .i64 (rdR l j).f0, .string ⟨#[]⟩, .bool false]) ?_ 1 _ rfl; refine blk_put (cs := #[.int .i64 0, .string ⟨#[]⟩, .bool false]) ?_ 0 _ rfl; exact HX.out) Tryd.underlying113 rfl (by kernel_rfl)) rfl ?_
      have h1 := HE.out
      simp only [Prod.mk.injEq] at h1
      obtain ⟨rfl, rfl, rfl, rfl⟩ := h1
      refine ⟨rfl, ?_⟩
      exact (((below_then HBA.out HBA.out.size HB3.out).setCell (Nat.le_refl _) _).setCell (Nat.le_refl _) _).setCell (Nat.le_refl _) _
    · have hna : a = n := by rw [← hn]; unfold nmG; rw [if_neg ca]
      subst hna
      clear hn ca
      go_enter Tryd.func65, Tryd.ntmps65
      go_wp2_with fail
      refine HM.out.mono ?_
      rintro e w1 ⟨rfl, hb1⟩
      rw [← HWA.out] at hb1
      have HB1 := Aside0.mk hb1
      clear hb1
      go_wp2_with fail
      refine (HNM.out _).mono ?_
      rintro e w2 ⟨rfl, hdr⟩
      have HB2 := Aside0.mk (show Below wa.heap.size wa w2 by obtain ⟨nd, rfl⟩ := hdr.out; exact pw_below_drewN HB1.out nd)
      clear hdr
      go_wp2_with fail
      refine (HG.out _).mono ?_
      rintro e w4 ⟨rfl, hdr⟩
      have HB4 := Aside0.mk (show Below wa.heap.size wa w4 by obtain ⟨nd, rfl⟩ := hdr.out; exact pw_below_drewN HB2.out nd)
      clear hdr
      go_wp2_with fail
      refine (HF.out _ HB4.out).mono ?_
      rintro e w3 ⟨rfl, hb3⟩
      have HB3 := Aside0.mk (below_then HB4.out HB4.out.size hb3)
      have HX := Aside0.mk ((HB3.out.block w.heap.size (by have := HSZ.out; omega)).trans HXA.out)
      obtain ⟨m0, m1, m2⟩ := HC3.out w3 (below_then HBA.out HBA.out.size HB3.out)
      have x0 : w3.cell? ⟨w.heap.size, 0, none⟩ = some (.int .i64 0) := by rw [cell_row HX.out]; rfl
      have x1 : w3.cell? ⟨w.heap.size, 1, none⟩ = some (.string ⟨#[]⟩) := by rw [cell_row HX.out]; rfl
      have x2 : w3.cell? ⟨w.heap.size, 2, none⟩ = some (.bool false) := by rw [cell_row HX.out]; rfl
      have z0 : w3.frozen? ⟨w.heap.size, 0, none⟩ = false := by simp [World.frozen?, HX.out]
      have z1 : w3.frozen? ⟨w.heap.size, 1, none⟩ = false := by simp [World.frozen?, HX.out]
      have z2 : w3.frozen? ⟨w.heap.size, 2, none⟩ = false := by simp [World.frozen?, HX.out]
      clear hb3
      go_wp2_with fail
      refine bodyPost_ret (results_ct rfl _ _ w.heap.size 113 #[.int .i64 (rdR l j).f0, .string (rdR l j).f1, .bool (rdR l j).f2] (0, 0) _ rfl (by refine blk_put (cs := #[.int .i64 (rdR l j).f0, .string (rdR l j).f1, .bool false]) ?_ 2 _ rfl; refine blk_put (cs := #[.int .i64 (rdR l j).f0, .string ⟨#[]⟩, .bool false]) ?_ 1 _ rfl; refine blk_put (cs := #[.int .i64 0, .string ⟨#[]⟩, .bool false]) ?_ 0 _ rfl; exact HX.out) Tryd.underlying113 rfl (by kernel_rfl)) rfl ?_
      have h1 := HE.out
      simp only [Prod.mk.injEq] at h1
      obtain ⟨rfl, rfl, rfl, rfl⟩ := h1
      refine ⟨rfl, ?_⟩
      exact (((below_then HBA.out HBA.out.size HB3.out).setCell (Nat.le_refl _) _).setCell (Nat.le_refl _) _).setCell (Nat.le_refl _) _
  | false =>
    have hre : getR l n = (0, ⟨#[]⟩, false, 7) := by unfold getR; rw [if_neg (by rw [hh]; exact Bool.false_ne_true)]
    have HE := Aside0.mk (hre.symm.trans hr)
    rw [hh, hj] at HF
    clear hC hm hT hr hwa hBa hsz hxa hok hbd hk hh hj hre HGR
    by_cases ca : a = 0
    · subst ca
      have hn34 : n = 34 := hn.symm
      subst hn34
      clear hn dn0 dn1
      go_enter Tryd.func65, Tryd.ntmps65
      go_wp2_with fail
      refine HM.out.mono ?_
      rintro e w1 ⟨rfl, hb1⟩
      rw [← HWA.out] at hb1
      have HB1 := Aside0.mk hb1
      clear hb1
      go_wp2_with fail
      refine (HF.out _ HB1.out).mono ?_
      rintro e w3 ⟨rfl, hb3⟩
      have HB3 := Aside0.mk (below_then HB1.out HB1.out.size hb3)
      have HX := Aside0.mk ((HB3.out.block w.heap.size (by have := HSZ.out; omega)).trans HXA.out)
      have x0 : w3.cell? ⟨w.heap.size, 0, none⟩ = some (.int .i64 0) := by rw [cell_row HX.out]; rfl
      have x1 : w3.cell? ⟨w.heap.size, 1, none⟩ = some (.string ⟨#[]⟩) := by rw [cell_row HX.out]; rfl
      have x2 : w3.cell? ⟨w.heap.size, 2, none⟩ = some (.bool false) := by rw [cell_row HX.out]; rfl
      have z0 : w3.frozen? ⟨w.heap.size, 0, none⟩ = false := by simp [World.frozen?, HX.out]
      have z1 : w3.frozen? ⟨w.heap.size, 1, none⟩ = false := by simp [World.frozen?, HX.out]
      have z2 : w3.frozen? ⟨w.heap.size, 2, none⟩ = false := by simp [World.frozen?, HX.out]
      clear hb3
      go_wp2_with fail
      refine bodyPost_ret (results_ct rfl _ _ w.heap.size 113 #[.int .i64 0, .string ⟨#[]⟩, .bool false] (0, 0) _ rfl (by refine blk_put (cs := #[.int .i64 0, .string ⟨#[]⟩, .bool false]) ?_ 2 _ rfl; refine blk_put (cs := #[.int .i64 0, .string ⟨#[]⟩, .bool false]) ?_ 1 _ rfl; refine blk_put (cs := #[.int .i64 0, .string ⟨#[]⟩, .bool false]) ?_ 0 _ rfl; exact HX.out) Tryd.underlying113 rfl (by kernel_rfl)) rfl ?_
      have h1 := HE.out
      simp only [Prod.mk.injEq] at h1
      obtain ⟨rfl, rfl, rfl, rfl⟩ := h1
      refine ⟨rfl, ?_⟩
      exact (((below_then HBA.out HBA.out.size HB3.out).setCell (Nat.le_refl _) _).setCell (Nat.le_refl _) _).setCell (Nat.le_refl _) _
    · have hna : a = n := by rw [← hn]; unfold nmG; rw [if_neg ca]
      subst hna
      clear hn ca
      go_enter Tryd.func65, Tryd.ntmps65
      go_wp2_with fail
      refine HM.out.mono ?_
      rintro e w1 ⟨rfl, hb1⟩
      rw [← HWA.out] at hb1
      have HB1 := Aside0.mk hb1
      clear hb1
      go_wp2_with fail
      refine (HNM.out _).mono ?_
      rintro e w2 ⟨rfl, hdr⟩
      have HB2 := Aside0.mk (show Below wa.heap.size wa w2 by obtain ⟨nd, rfl⟩ := hdr.out; exact pw_below_drewN HB1.out nd)
      clear hdr
      go_wp2_with fail
      refine (HG.out _).mono ?_
      rintro e w4 ⟨rfl, hdr⟩
      have HB4 := Aside0.mk (show Below wa.heap.size wa w4 by obtain ⟨nd, rfl⟩ := hdr.out; exact pw_below_drewN HB2.out nd)
      clear hdr
      go_wp2_with fail
      refine (HF.out _ HB4.out).mono ?_
      rintro e w3 ⟨rfl, hb3⟩
      have HB3 := Aside0.mk (below_then HB4.out HB4.out.size hb3)
      have HX := Aside0.mk ((HB3.out.block w.heap.size (by have := HSZ.out; omega)).trans HXA.out)
      have x0 : w3.cell? ⟨w.heap.size, 0, none⟩ = some (.int .i64 0) := by rw [cell_row HX.out]; rfl
      have x1 : w3.cell? ⟨w.heap.size, 1, none⟩ = some (.string ⟨#[]⟩) := by rw [cell_row HX.out]; rfl
      have x2 : w3.cell? ⟨w.heap.size, 2, none⟩ = some (.bool false) := by rw [cell_row HX.out]; rfl
      have z0 : w3.frozen? ⟨w.heap.size, 0, none⟩ = false := by simp [World.frozen?, HX.out]
      have z1 : w3.frozen? ⟨w.heap.size, 1, none⟩ = false := by simp [World.frozen?, HX.out]
      have z2 : w3.frozen? ⟨w.heap.size, 2, none⟩ = false := by simp [World.frozen?, HX.out]
      clear hb3
      go_wp2_with fail
      refine bodyPost_ret (results_ct rfl _ _ w.heap.size 113 #[.int .i64 0, .string ⟨#[]⟩, .bool false] (0, 0) _ rfl (by refine blk_put (cs := #[.int .i64 0, .string ⟨#[]⟩, .bool false]) ?_ 2 _ rfl; refine blk_put (cs := #[.int .i64 0, .string ⟨#[]⟩, .bool false]) ?_ 1 _ rfl; refine blk_put (cs := #[.int .i64 0, .string ⟨#[]⟩, .bool false]) ?_ 0 _ rfl; exact HX.out) Tryd.underlying113 rfl (by kernel_rfl)) rfl ?_
      have h1 := HE.out
      simp only [Prod.mk.injEq] at h1
      obtain ⟨rfl, rfl, rfl, rfl⟩ := h1
      refine ⟨rfl, ?_⟩
      exact (((below_then HBA.out HBA.out.size HB3.out).setCell (Nat.le_refl _) _).setCell (Nat.le_refl _) _).setCell (Nat.le_refl _) _
end
theorem regs_Get.calls (A0 : Option Addr) (c0 : Nat) (l0 : List SR) (a1 : Int) (r1 : Int) (r2 : ByteArray) (r3 : Bool) (r4 : Int) (w : World) (hr0 : Kd.C Ra.k113 w A0 l0.length l0) (hc0 : l0.length ≤ c0) (hT : TabsOk w) (h : regs_Get.f l0 a1 = some (r1, r2, r3, r4)) :
    Calls Tryd.prog 65 #[.slice A0 l0.length c0, .int .i64 a1] w fun e w' => e = .returned (.tuple #[.agg #[.int .i64 r1, .string r2, .bool r3], .int .i64 r4]) ∧ Below w.heap.size w w' := by
  unfold regs_Get.f at h
  by_cases c : (mayR l0 && keptB (nmG a1)) = true
  · rw [if_pos c] at h
    simp only [Bool.and_eq_true] at c
    exact get_c A0 c0 l0 w a1 _ rfl hr0 hc0 c.1 c.2 hT r1 r2 r3 r4 (Option.some.inj h)
  · rw [if_neg c] at h; cases h
end Go.Proofs.YtdoebjnfnmfnnaaDoor.F
