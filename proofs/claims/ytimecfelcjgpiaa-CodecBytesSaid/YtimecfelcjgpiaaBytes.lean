import Derived.Test.YtimecfelcjgpiaaTake
import Derived.Laws.BitsLemmas
import Derived.Laws.BytesArg
/-! An op's bytes, in plain Lean: there and back. -/
namespace Go.Proofs.Ytimecfelcjgpiaa.F
open Go.RowKit Go.Proofs.YtimecfelcjgpiaaW.PrintWords Go.Proofs.YtimecfelcjgpiaaW.PrintLast Go.Proofs.YtimecfelcjgpiaaW.PrintMore Go.Proofs.Ytimecfelcjgpiaa.Q

def Byte (b : Int) : Prop := 0 ≤ b ∧ b < 256
theorem numF_eq {a b : Int} (h0 : 0 ≤ a) (h1 : a < 16777216) (hb : Byte b) : numF a b = a * 256 + b := by
  obtain ⟨b0, b1⟩ := hb
  unfold numF
  rw [show wrap64 (a * 256) = a * 256 by unfold wrap64; omega, show wrap64 b = b by unfold wrap64; omega]
  refine bits_join .i64 40 (by decide) (fun n h0 h1 => ?_) 8 (a * 256) b (by omega) (by omega) (by omega) b0 (by omega) (by omega)
  rw [IntKind.wrap_i64]
  omega
theorem num1 {a : Int} (ha : Byte a) : numB [a] = a := by
  show numF 0 a = a
  rw [numF_eq (by omega) (by omega) ha]; omega
theorem num2 {a b : Int} (ha : Byte a) (hb : Byte b) : numB [a, b] = a * 256 + b := by
  show numF (numF 0 a) b = _
  have := ha.1; have := ha.2
  rw [show numF 0 a = a from num1 ha, numF_eq (by omega) (by omega) hb]
theorem num3 {a b c : Int} (ha : Byte a) (hb : Byte b) (hc : Byte c) : numB [a, b, c] = a * 65536 + b * 256 + c := by
  show numF (numF (numF 0 a) b) c = _
  have := ha.1; have := ha.2; have := hb.1; have := hb.2
  rw [show numF (numF 0 a) b = a * 256 + b from num2 ha hb, numF_eq (by omega) (by omega) hc]; omega
theorem nb1 (n : Int) : nbytes n 1 = [n % 256] := by
  show [n / 2 ^ (8 * 0) % 256] = _
  simp
theorem nb2 (n : Int) : nbytes n 2 = [n / 256 % 256, n % 256] := by
  show n / 2 ^ (8 * 1) % 256 :: nbytes n 1 = _
  rw [nb1]; rfl
theorem nb3 (n : Int) : nbytes n 3 = [n / 65536 % 256, n / 256 % 256, n % 256] := by
  show n / 2 ^ (8 * 2) % 256 :: nbytes n 2 = _
  rw [nb2]; rfl
theorem byte_mod (n : Int) : Byte (n % 256) := by unfold Byte; omega
theorem back1 {n : Int} (h0 : 0 ≤ n) (h1 : n < 256) : numB [n % 256] = n := by rw [num1 (byte_mod _)]; omega
theorem back2 {n : Int} (h0 : 0 ≤ n) (h1 : n < 65536) : numB [n / 256 % 256, n % 256] = n := by rw [num2 (byte_mod _) (byte_mod _)]; omega
theorem back3 {n : Int} (h0 : 0 ≤ n) (h1 : n < 16777216) : numB [n / 65536 % 256, n / 256 % 256, n % 256] = n := by rw [num3 (byte_mod _) (byte_mod _) (byte_mod _)]; omega
theorem there1 {a : Int} (ha : Byte a) : nbytes (numB [a]) 1 = [a] := by
  have := ha.1; have := ha.2
  rw [nb1, num1 ha]; congr 1; omega
theorem there2 {a b : Int} (ha : Byte a) (hb : Byte b) : nbytes (numB [a, b]) 2 = [a, b] := by
  have := ha.1; have := ha.2; have := hb.1; have := hb.2
  rw [nb2, num2 ha hb, show (a * 256 + b) / 256 % 256 = a by omega, show (a * 256 + b) % 256 = b by omega]
theorem there3 {a b c : Int} (ha : Byte a) (hb : Byte b) (hc : Byte c) : nbytes (numB [a, b, c]) 3 = [a, b, c] := by
  have := ha.1; have := ha.2; have := hb.1; have := hb.2; have := hc.1; have := hc.2
  rw [nb3, num3 ha hb hc, show (a * 65536 + b * 256 + c) / 65536 % 256 = a by omega, show (a * 65536 + b * 256 + c) / 256 % 256 = b by omega, show (a * 65536 + b * 256 + c) % 256 = c by omega]

theorem u8_nat {n : Int} (h : Byte n) : ((UInt8.ofNat n.toNat).toNat : Int) = n := by
  obtain ⟨h0, h1⟩ := h
  rw [UInt8.toNat_ofNat']
  omega
theorem bts_str {l : List Int} (h : ∀ b ∈ l, Byte b) : bts (strOfNums l) = l := by
  unfold bts
  rw [strOfNums_data, List.map_map]
  refine (List.map_congr_left (fun b hb => ?_)).trans (List.map_id l)
  exact u8_nat (h b hb)
theorem bts_byte (s : ByteArray) : ∀ b ∈ bts s, Byte b := by
  intro b hb
  simp only [bts, List.mem_map] at hb
  obtain ⟨x, _, rfl⟩ := hb
  have := x.toNat_lt
  unfold Byte; omega
theorem str_bts (s : ByteArray) : strOfNums (bts s) = s := by
  apply ByteArray.ext
  apply Array.ext'
  show ((bts s).map fun n => UInt8.ofNat n.toNat) = _
  unfold bts
  rw [List.map_map]
  refine (List.map_congr_left (fun b hb => ?_)).trans (List.map_id _)
  simp
theorem nbytes_byte (n : Int) : ∀ m, ∀ b ∈ nbytes n m, Byte b
  | 0, b, h => by simp [nbytes] at h
  | m + 1, b, h => by
    rw [nbytes, List.mem_cons] at h
    rcases h with rfl | h
    · exact byte_mod _
    · exact nbytes_byte n m b h
theorem seen_byte : ∀ (v : List Int), ∀ b ∈ seenBytes v, Byte b
  | [], b, h => by simp [seenBytes] at h
  | n :: v, b, h => by
    rw [seenBytes, List.mem_append] at h
    rcases h with h | h
    · exact nbytes_byte _ _ b h
    · exact seen_byte v b h
theorem op_byte (o : OpN) (v : List Int) : ∀ b ∈ opBytes o v, Byte b := by
  intro b h
  simp only [opBytes, headBytes, List.mem_append, List.not_mem_nil, false_or] at h
  rcases h with (((((((h | h) | h) | h) | h) | h) | h) | h) | h
  all_goals first | exact nbytes_byte _ _ b h | exact seen_byte _ b h
theorem op_len {o : OpN} {v : List Int} (h : opB o v = true) : (opBytes o v).length = 21 := by
  have hv := opB_len h
  simp [opBytes, headBytes, nbytes_len, seen_len, hv]
theorem size_str {o : OpN} {v : List Int} (h : opB o v = true) : (strOfNums (opBytes o v)).size = 21 := by rw [strOfNums_size, op_len h]

theorem idB_le {t s : Int} (h : idB t s = true) : 1 ≤ t ∧ t ≤ 10000 ∧ 0 ≤ s ∧ s ≤ 4 := by simpa [idB, and_assoc] using h
theorem vec_le {v : List Int} (h : vecB v = true) : v.length = 4 ∧ ∀ n ∈ v, 0 ≤ n ∧ n ≤ 2000 := by
  unfold vecB vnB at h
  simp at h
  exact h
/-- An op's bounds. -/
structure OpIn (o : OpN) : Prop where
  kind : 0 ≤ o.kind ∧ o.kind < 256
  time : 0 ≤ o.time ∧ o.time < 65536
  site_ : 0 ≤ o.site_ ∧ o.site_ < 256
  atime : 0 ≤ o.atime ∧ o.atime < 65536
  asite : 0 ≤ o.asite ∧ o.asite < 256
  rune : 0 ≤ o.rune ∧ o.rune < 16777216
  site : 0 ≤ o.site ∧ o.site < 256
  n : 0 ≤ o.n ∧ o.n < 65536
theorem op_in {o : OpN} {v : List Int} (h : opB o v = true) : OpIn o ∧ vecB v = true := by
  unfold opB at h
  simp only [Bool.and_eq_true, decide_eq_true_eq] at h
  obtain ⟨⟨⟨⟨h1, h2⟩, h3⟩, h4⟩, h5⟩ := h
  have e1 := idB_le h1
  refine ⟨?_, h4⟩
  by_cases k1 : o.kind = 1
  · rw [if_pos k1] at h5
    simp only [Bool.and_eq_true, Bool.or_eq_true, beq_iff_eq] at h5
    have hr : 1 ≤ o.rune ∧ o.rune ≤ 1114111 := by
      have := h5.2
      simp only [runeB, Bool.and_eq_true, decide_eq_true_eq] at this
      exact this.1
    have ha : 0 ≤ o.atime ∧ o.atime ≤ 10000 ∧ 0 ≤ o.asite ∧ o.asite ≤ 4 := by
      rcases h5.1 with h | h
      · omega
      · have := idB_le h.1; omega
    exact ⟨by omega, by omega, by omega, by omega, by omega, by omega, by omega, by omega⟩
  · rw [if_neg k1] at h5
    by_cases k2 : o.kind = 2
    · rw [if_pos k2] at h5
      simp only [Bool.and_eq_true, beq_iff_eq] at h5
      exact ⟨by omega, by omega, by omega, by omega, by omega, by omega, by omega, by omega⟩
    · rw [if_neg k2] at h5; cases h5
theorem take_op {o : OpN} {v : List Int} (h : opB o v = true) : takeO (opBytes o v) = o ∧ takeV (opBytes o v) 4 = v := by
  obtain ⟨hi, hv⟩ := op_in h
  obtain ⟨hl, hb⟩ := vec_le hv
  obtain ⟨a, b, c, d, rfl⟩ : ∃ a b c d, v = [a, b, c, d] := by
    match v, hl with
    | [a, b, c, d], _ => exact ⟨a, b, c, d, rfl⟩
  have ha := hb a (by simp); have hb2 := hb b (by simp); have hc := hb c (by simp); have hd := hb d (by simp)
  have e : opBytes o [a, b, c, d] = [o.kind % 256, o.time / 256 % 256, o.time % 256, o.site_ % 256, o.atime / 256 % 256, o.atime % 256, o.asite % 256, o.rune / 65536 % 256, o.rune / 256 % 256, o.rune % 256, o.site % 256, o.n / 256 % 256, o.n % 256,
      a / 256 % 256, a % 256, b / 256 % 256, b % 256, c / 256 % 256, c % 256, d / 256 % 256, d % 256] := by
    simp only [opBytes, headBytes, seenBytes, nb1, nb2, nb3, List.nil_append, List.cons_append, List.append_nil]
  rw [e]
  refine ⟨?_, ?_⟩
  · have e1 := back1 hi.kind.1 hi.kind.2; have e2 := back2 hi.time.1 hi.time.2; have e3 := back1 hi.site_.1 hi.site_.2; have e4 := back2 hi.atime.1 hi.atime.2
    have e5 := back1 hi.asite.1 hi.asite.2; have e6 := back3 hi.rune.1 hi.rune.2; have e7 := back1 hi.site.1 hi.site.2; have e8 := back2 hi.n.1 hi.n.2
    show OpN.mk (numB [o.kind % 256]) (numB [o.time / 256 % 256, o.time % 256]) (numB [o.site_ % 256]) (numB [o.atime / 256 % 256, o.atime % 256]) (numB [o.asite % 256]) (numB [o.rune / 65536 % 256, o.rune / 256 % 256, o.rune % 256]) (numB [o.site % 256]) (numB [o.n / 256 % 256, o.n % 256]) = o
    rw [e1, e2, e3, e4, e5, e6, e7, e8]
  · show [numB [a / 256 % 256, a % 256], numB [b / 256 % 256, b % 256], numB [c / 256 % 256, c % 256], numB [d / 256 % 256, d % 256]] = _
    rw [back2 ha.1 (by omega), back2 hb2.1 (by omega), back2 hc.1 (by omega), back2 hd.1 (by omega)]
/-- An op's bytes are taken as it. -/
theorem take_bytes {o : OpN} {v : List Int} (h : opB o v = true) : takeF (strOfNums (opBytes o v)) = (o, v, 0) := by
  unfold takeF
  rw [if_pos (size_str h), bts_str (op_byte o v), (take_op h).1, (take_op h).2, if_pos h]
theorem op_take {l : List Int} (hl : l.length = 21) (hb : ∀ b ∈ l, Byte b) : opBytes (takeO l) (takeV l 4) = l := by
  match l, hl with
  | [b0, b1, b2, b3, b4, b5, b6, b7, b8, b9, b10, b11, b12, b13, b14, b15, b16, b17, b18, b19, b20], _ =>
    have g : ∀ b, b ∈ [b0, b1, b2, b3, b4, b5, b6, b7, b8, b9, b10, b11, b12, b13, b14, b15, b16, b17, b18, b19, b20] → Byte b := hb
    show (([] ++ nbytes (numB [b0]) 1 ++ nbytes (numB [b1, b2]) 2 ++ nbytes (numB [b3]) 1 ++ nbytes (numB [b4, b5]) 2 ++ nbytes (numB [b6]) 1 ++ nbytes (numB [b7, b8, b9]) 3 ++ nbytes (numB [b10]) 1 ++ nbytes (numB [b11, b12]) 2) ++
      (nbytes (numB [b13, b14]) 2 ++ (nbytes (numB [b15, b16]) 2 ++ (nbytes (numB [b17, b18]) 2 ++ (nbytes (numB [b19, b20]) 2 ++ []))))) = _
    rw [there1 (g b0 (by simp)), there2 (g b1 (by simp)) (g b2 (by simp)), there1 (g b3 (by simp)), there2 (g b4 (by simp)) (g b5 (by simp)), there1 (g b6 (by simp)), there3 (g b7 (by simp)) (g b8 (by simp)) (g b9 (by simp)), there1 (g b10 (by simp)), there2 (g b11 (by simp)) (g b12 (by simp)),
      there2 (g b13 (by simp)) (g b14 (by simp)), there2 (g b15 (by simp)) (g b16 (by simp)), there2 (g b17 (by simp)) (g b18 (by simp)), there2 (g b19 (by simp)) (g b20 (by simp))]
    rfl
/-- Bytes that are taken are the op's own. -/
theorem bytes_take {s : ByteArray} {o : OpN} {v : List Int} (h : takeF s = (o, v, 0)) : bytesF o v = (s, 0) := by
  unfold takeF at h
  by_cases hs : s.size = 21
  · rw [if_pos hs] at h
    cases hb : opB (takeO (bts s)) (takeV (bts s) 4) with
    | true =>
      rw [hb, if_pos rfl] at h
      simp only [Prod.mk.injEq, and_true] at h
      obtain ⟨rfl, rfl⟩ := h
      unfold bytesF
      rw [if_pos hb, op_take (by rw [bts_len]; exact hs) (bts_byte s), str_bts]
    | false =>
      rw [hb, if_neg (by simp)] at h
      simp at h
  · rw [if_neg hs] at h
    simp at h
end Go.Proofs.Ytimecfelcjgpiaa.F
