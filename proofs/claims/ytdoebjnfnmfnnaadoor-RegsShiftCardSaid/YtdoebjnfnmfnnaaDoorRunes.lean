/- Plain facts on UTF-8 texts as lists of runes: decoding, encoding, validity. No program in sight. -/
import Derived.Lib.MapLaws
import Derived.Lib.ValidLaws
import Derived.Lib.RuneCount
import Derived.Lib.QuoteLoop
import Derived.Laws.Cover4
import Derived.Laws.IdiomStrings
namespace Go.Proofs.YtdoebjnfnmfnnaaDoor.Q
open Go.Lib

/-- A rune that valid text may hold. -/
def vr (x : Int) : Prop := (0 ≤ x ∧ x < 55296) ∨ (57344 ≤ x ∧ x ≤ 1114111)
instance (x : Int) : Decidable (vr x) := by unfold vr; exact inferInstance

def runesF : Nat → List UInt8 → List Int
  | 0, _ => []
  | n + 1, l => if l = [] then [] else ((decodeL l).1 : Int) :: runesF n (l.drop (decodeL l).2)
/-- What []rune(s) holds. -/
def runes (l : List UInt8) : List Int := runesF l.length l

theorem runesF_nil : ∀ n, runesF n [] = []
  | 0 => rfl
  | _ + 1 => by simp [runesF]
theorem runesF_fuel : ∀ (n m : Nat) (l : List UInt8), l.length ≤ n → l.length ≤ m → runesF n l = runesF m l
  | 0, m, l, hn, _ => by
    have : l = [] := List.eq_nil_of_length_eq_zero (by omega)
    subst this
    rw [runesF_nil, runesF_nil]
  | n + 1, 0, l, _, hm => by
    have : l = [] := List.eq_nil_of_length_eq_zero (by omega)
    subst this
    rw [runesF_nil, runesF_nil]
  | n + 1, m + 1, l, hn, hm => by
    unfold runesF
    by_cases hne : l = []
    · simp [hne]
    · have hw := decodeL_width l
      have hl : 0 < l.length := List.length_pos_iff.2 hne
      rw [if_neg hne, if_neg hne, runesF_fuel n m (l.drop (decodeL l).2) (by rw [List.length_drop]; omega) (by rw [List.length_drop]; omega)]
@[simp] theorem runes_nil : runes [] = [] := rfl
theorem runes_step (l : List UInt8) (hne : l ≠ []) : runes l = ((decodeL l).1 : Int) :: runes (l.drop (decodeL l).2) := by
  have hl : 0 < l.length := List.length_pos_iff.2 hne
  have hw := decodeL_width l
  obtain ⟨n, hn⟩ : ∃ n, l.length = n + 1 := ⟨l.length - 1, by omega⟩
  unfold runes
  rw [hn]
  show (if l = [] then [] else _) = _
  rw [if_neg hne, runesF_fuel n (l.drop (decodeL l).2).length _ (by rw [List.length_drop]; omega) (Nat.le_refl _)]

theorem get!_getD (s : ByteArray) (i : Nat) : s.get! i = s.data.toList.getD i 0 := by
  cases s with | mk d => simp only [ByteArray.get!, List.getD_eq_getElem?_getD, Array.getElem?_toList, getElem!_def]; cases d[i]? <;> rfl
theorem decode_drop (s : ByteArray) (i : Nat) : Utf8.decode s i = decodeL (s.data.toList.drop i) := by
  rw [decode_at, decodeL_N]
  simp only [get!_getD, List.getD_eq_getElem?_getD, List.getElem?_drop, List.length_drop, Array.length_toList, Nat.add_zero]
  rfl
theorem width_le (l : List UInt8) (h : l ≠ []) : (decodeL l).2 ≤ l.length := decodeL_le l h

theorem runesFrom_eq (s : ByteArray) : ∀ (n i : Nat) (acc : Array Value), s.size - i ≤ n → (Conv.runesFrom s n i acc) = acc ++ ((runes (s.data.toList.drop i)).map (Value.int .i32)).toArray
  | 0, i, acc, h => by
    have : s.data.toList.drop i = [] := by rw [List.drop_eq_nil_iff]; simp only [Array.length_toList]; have : s.data.size = s.size := rfl; omega
    simp [Conv.runesFrom, this]
  | n + 1, i, acc, h => by
    unfold Conv.runesFrom
    by_cases hi : i < s.size
    · have hne : s.data.toList.drop i ≠ [] := by rw [Ne, List.drop_eq_nil_iff]; simp only [Array.length_toList]; have : s.data.size = s.size := rfl; omega
      have hw := decodeL_width (s.data.toList.drop i)
      rw [if_pos hi]
      simp only [decode_drop]
      rw [runesFrom_eq s n _ _ (by omega), runes_step _ hne, List.drop_drop]
      simp
    · have : s.data.toList.drop i = [] := by rw [List.drop_eq_nil_iff]; simp only [Array.length_toList]; have : s.data.size = s.size := rfl; omega
      simp [hi, this]
theorem runesFrom_all (s : ByteArray) : Conv.runesFrom s s.size 0 #[] = ((runes s.data.toList).map (Value.int .i32)).toArray := by
  rw [runesFrom_eq s s.size 0 #[] (by omega)]; simp

theorem runeCountFrom_eq (s : ByteArray) : ∀ (n i : Nat), s.size - i ≤ n → runeCountFrom s n i = (runes (s.data.toList.drop i)).length
  | 0, i, h => by
    have : s.data.toList.drop i = [] := by rw [List.drop_eq_nil_iff]; simp only [Array.length_toList]; have : s.data.size = s.size := rfl; omega
    simp [runeCountFrom, this]
  | n + 1, i, h => by
    unfold runeCountFrom
    by_cases hi : i < s.size
    · have hne : s.data.toList.drop i ≠ [] := by rw [Ne, List.drop_eq_nil_iff]; simp only [Array.length_toList]; have : s.data.size = s.size := rfl; omega
      have hw := decodeL_width (s.data.toList.drop i)
      rw [if_pos hi, decode_drop, runeCountFrom_eq s n _ (by omega), runes_step _ hne, List.drop_drop]
      simp; omega
    · have : s.data.toList.drop i = [] := by rw [List.drop_eq_nil_iff]; simp only [Array.length_toList]; have : s.data.size = s.size := rfl; omega
      simp [hi, this]
theorem runeCount_eq (s : ByteArray) : runeCount s = (runes s.data.toList).length := by
  unfold runeCount; rw [runeCountFrom_eq s s.size 0 (by omega)]; simp

theorem runes_length_le (l : List UInt8) : (runes l).length ≤ l.length := by
  have := runeCount_le ⟨l.toArray⟩
  rw [runeCount_eq] at this
  simpa [ByteArray.size] using this

theorem decodeL_vr (l : List UInt8) : vr ((decodeL l).1 : Int) := by
  rw [decodeL_N]
  have k0 := (l.getD 0 0).toNat_lt
  have k1 := (l.getD 1 0).toNat_lt
  have k2 := (l.getD 2 0).toNat_lt
  have k3 := (l.getD 3 0).toNat_lt
  unfold vr
  rcases decodeN_shape l.length (l.getD 0 0).toNat (l.getD 1 0).toNat (l.getD 2 0).toNat (l.getD 3 0).toNat with ⟨c, e⟩ | ⟨c1, c2, c3, cv, e⟩ | ⟨c1, c2, c3, c4, cv, cs, e⟩ | ⟨c1, c2, c3, c4, c5, cv, cw, e⟩ | e
  all_goals rw [e]; dsimp only; omega
theorem runes_vr_len : ∀ (n : Nat) (l : List UInt8), l.length ≤ n → ∀ x ∈ runes l, vr x
  | 0, l, hn => by
    have : l = [] := List.eq_nil_of_length_eq_zero (by omega)
    subst this; simp
  | n + 1, l, hn => by
    by_cases hne : l = []
    · subst hne; simp
    · have hw := decodeL_width l
      have hl : 0 < l.length := List.length_pos_iff.2 hne
      rw [runes_step l hne]
      intro x hx
      rcases List.mem_cons.1 hx with rfl | hx
      · exact decodeL_vr l
      · exact runes_vr_len n _ (by rw [List.length_drop]; omega) x hx
theorem runes_vr (l : List UInt8) : ∀ x ∈ runes l, vr x := runes_vr_len _ l (Nat.le_refl _)

/-- The bytes of runes. -/
def bys (xs : List Int) : List UInt8 := xs.flatMap encodeRune
@[simp] theorem bys_nil : bys [] = [] := rfl
@[simp] theorem bys_cons (x : Int) (xs : List Int) : bys (x :: xs) = encodeRune x ++ bys xs := rfl
@[simp] theorem bys_append (xs ys : List Int) : bys (xs ++ ys) = bys xs ++ bys ys := by simp [bys]

theorem encodeRune_ne (x : Int) : encodeRune x ≠ [] := by
  have := encodeRuneZ_length x
  intro h
  have h2 : (encodeRune x).length = 0 := by rw [h]; rfl
  simp [encodeRune] at h2
  rw [h2] at this; simp at this

theorem ofN {n m : Nat} (h : n = m) : UInt8.ofNat n = m.toUInt8 := h ▸ rfl
theorem toNat_u8 {x : Int} (_h0 : 0 ≤ x) (h1 : x < 256) : (x.toNat.toUInt8).toNat = x.toNat := by
  simp; omega

/-- What was encoded is decoded. -/
theorem decode_encode (x : Int) (hx : vr x) (t : List UInt8) : decodeL (encodeRune x ++ t) = (x.toNat, (encodeRune x).length) := by
  rw [decodeL_N]
  unfold vr at hx
  unfold encodeRune
  by_cases h1 : x ≤ 127
  · rw [encodeRuneZ_one (by omega) h1]
    simp only [List.map_cons, List.map_nil, List.cons_append, List.nil_append, List.getD_cons_zero, List.length_cons]
    rw [toNat_u8 (by omega) (by omega)]
    unfold decodeN
    rw [if_pos (by omega)]; rfl
  · by_cases h2 : x ≤ 2047
    · rw [encodeRuneZ_two (by omega) h2]
      simp only [List.map_cons, List.map_nil, List.cons_append, List.nil_append, List.getD_cons_zero, List.getD_cons_succ, List.length_cons]
      rw [toNat_u8 (x := 192 + x / 64) (by omega) (by omega), toNat_u8 (x := 128 + x % 64) (by omega) (by omega)]
      unfold decodeN
      rw [if_neg (by omega), if_pos (by omega), if_pos (by omega)]
      simp; omega
    · by_cases h3 : x ≤ 65535
      · rw [encodeRuneZ_three (by omega)]
        simp only [List.map_cons, List.map_nil, List.cons_append, List.nil_append, List.getD_cons_zero, List.getD_cons_succ, List.length_cons]
        rw [toNat_u8 (x := 224 + x / 4096) (by omega) (by omega), toNat_u8 (x := 128 + x / 64 % 64) (by omega) (by omega), toNat_u8 (x := 128 + x % 64) (by omega) (by omega)]
        unfold decodeN
        rw [if_neg (by omega), if_neg (by omega), if_pos (by omega), if_pos (by omega)]
        simp; omega
      · rw [encodeRuneZ_four (by omega) (by omega)]
        simp only [List.map_cons, List.map_nil, List.cons_append, List.nil_append, List.getD_cons_zero, List.getD_cons_succ, List.length_cons]
        rw [toNat_u8 (x := 240 + x / 262144) (by omega) (by omega), toNat_u8 (x := 128 + x / 4096 % 64) (by omega) (by omega), toNat_u8 (x := 128 + x / 64 % 64) (by omega) (by omega), toNat_u8 (x := 128 + x % 64) (by omega) (by omega)]
        unfold decodeN
        rw [if_neg (by omega), if_neg (by omega), if_neg (by omega), if_pos (by omega), if_pos (by omega)]
        simp; omega

theorem encodeRune_length (x : Int) : 1 ≤ (encodeRune x).length ∧ (encodeRune x).length ≤ 4 := by
  have := encodeRuneZ_length x; simpa [encodeRune] using this

theorem decode_ok (x : Int) (hx : vr x) (t : List UInt8) : ¬ ((decodeL (encodeRune x ++ t)).1 = 65533 ∧ (decodeL (encodeRune x ++ t)).2 = 1) := by
  rw [decode_encode x hx]
  rintro ⟨h1, h2⟩
  have hx' : x = 65533 := by simp at h1; unfold vr at hx; omega
  subst hx'
  exact absurd h2 (by decide)

theorem runes_bys : ∀ (xs : List Int), (∀ x ∈ xs, vr x) → runes (bys xs) = xs
  | [], _ => rfl
  | x :: xs, h => by
    have hx := h x (by simp)
    have hne : encodeRune x ++ bys xs ≠ [] := by simp [encodeRune_ne]
    rw [bys_cons, runes_step _ hne, decode_encode x hx]
    simp only [List.drop_left]
    rw [runes_bys xs (fun y hy => h y (by simp [hy]))]
    congr 1
    unfold vr at hx; omega
theorem validD_bys : ∀ (xs : List Int), (∀ x ∈ xs, vr x) → validD (bys xs) = true
  | [], _ => rfl
  | x :: xs, h => by
    have hx := h x (by simp)
    have hne : encodeRune x ++ bys xs ≠ [] := by simp [encodeRune_ne]
    rw [bys_cons, validD_step _ hne, if_neg (decode_ok x hx _), decode_encode x hx]
    simp only [List.drop_left]
    exact validD_bys xs (fun y hy => h y (by simp [hy]))
theorem bys_runes_len : ∀ (n : Nat) (l : List UInt8), l.length ≤ n → validD l = true → bys (runes l) = l
  | 0, l, hn, _ => by
    have : l = [] := List.eq_nil_of_length_eq_zero (by omega)
    subst this; rfl
  | n + 1, l, hn, hv => by
    by_cases hne : l = []
    · subst hne; rfl
    · have hw := decodeL_width l
      have hl : 0 < l.length := List.length_pos_iff.2 hne
      rw [validD_step l hne] at hv
      by_cases hb : (decodeL l).1 = 65533 ∧ (decodeL l).2 = 1
      · rw [if_pos hb] at hv; cases hv
      · rw [if_neg hb] at hv
        rw [runes_step l hne, bys_cons, encode_decode l hne hb, bys_runes_len n _ (by rw [List.length_drop]; omega) hv]
        exact List.take_append_drop _ _
/-- A valid text is its runes' bytes. -/
theorem bys_runes (l : List UInt8) (h : validD l = true) : bys (runes l) = l := bys_runes_len _ l (Nat.le_refl _) h

theorem encode_eq (x : Int) : (Utf8.encode x).data.toList = encodeRune x := by
  unfold Utf8.encode encodeRune encodeRuneZ
  rw [validRune_eq]
  unfold validRune
  by_cases hv : (0 ≤ x ∧ x < 55296) ∨ (57343 < x ∧ x ≤ 1114111)
  · simp only [hv, decide_true, if_true]
    repeat' split
    all_goals first
      | (exfalso; omega)
      | (simp only [List.map_cons, List.map_nil, List.cons.injEq, and_true]
         repeat' apply And.intro
         all_goals exact ofN (by omega))
  · simp only [hv, decide_false, Bool.false_eq_true, if_false, Utf8.runeError]
    rw [if_neg (by omega), if_neg (by omega), if_pos (by omega), if_neg (by omega), if_neg (by omega), if_neg (by omega), if_neg (by omega)]
    decide

theorem foldl_encode : ∀ (xs : List Int) (s : ByteArray), (xs.foldl (fun r n => r ++ Utf8.encode n) s).data.toList = s.data.toList ++ bys xs
  | [], s => by simp
  | x :: xs, s => by
    rw [List.foldl_cons, foldl_encode xs]
    simp [encode_eq, ByteArray.data_append]
theorem runesBytes_eq (xs : List Int) : (runesBytes xs).data.toList = bys xs := by
  unfold runesBytes; rw [foldl_encode]; simp
theorem runesBytes_mk (xs : List Int) : runesBytes xs = ⟨(bys xs).toArray⟩ := by
  rw [← runesBytes_eq]

/-- A byte below 128 stands in a rune's bytes only where it is that rune. -/
theorem mem_encodeRune {x : Int} (hx : vr x) {c : UInt8} (hc : c.toNat < 128) (h : c ∈ encodeRune x) : x = c.toNat ∧ encodeRune x = [c] := by
  unfold vr at hx
  unfold encodeRune at h ⊢
  by_cases h1 : x ≤ 127
  · rw [encodeRuneZ_one (by omega) h1] at h ⊢
    simp only [List.map_cons, List.map_nil, List.mem_singleton] at h ⊢
    have h2 := toNat_u8 (x := x) (by omega) (by omega)
    rw [← h] at h2 ⊢
    exact ⟨by omega, rfl⟩
  · exfalso
    by_cases h2 : x ≤ 2047
    · rw [encodeRuneZ_two (by omega) h2] at h
      simp only [List.map_cons, List.map_nil, List.mem_cons, List.not_mem_nil, or_false] at h
      rcases h with h | h <;> (subst h; rw [toNat_u8 (by omega) (by omega)] at hc; omega)
    · by_cases h3 : x ≤ 65535
      · rw [encodeRuneZ_three (by omega)] at h
        simp only [List.map_cons, List.map_nil, List.mem_cons, List.not_mem_nil, or_false] at h
        rcases h with h | h | h <;> (subst h; rw [toNat_u8 (by omega) (by omega)] at hc; omega)
      · rw [encodeRuneZ_four (by omega) (by omega)] at h
        simp only [List.map_cons, List.map_nil, List.mem_cons, List.not_mem_nil, or_false] at h
        rcases h with h | h | h | h <;> (subst h; rw [toNat_u8 (by omega) (by omega)] at hc; omega)
theorem encodeRune_ascii {c : UInt8} (hc : c.toNat < 128) : encodeRune (c.toNat : Int) = [c] := by
  unfold encodeRune
  rw [encodeRuneZ_one (by omega) (by omega)]
  simp
theorem mem_bys {xs : List Int} (h : ∀ x ∈ xs, vr x) {c : UInt8} (hc : c.toNat < 128) : c ∈ bys xs ↔ (c.toNat : Int) ∈ xs := by
  unfold bys
  rw [List.mem_flatMap]
  constructor
  · rintro ⟨x, hx, hm⟩
    rw [← (mem_encodeRune (h x hx) hc hm).1]; exact hx
  · intro hm
    exact ⟨_, hm, by rw [encodeRune_ascii hc]; simp⟩
/-- Where a byte below 128 stands, a rune ends and another one begins. -/
theorem bys_split {c : UInt8} (hc : c.toNat < 128) : ∀ (zs : List Int), (∀ x ∈ zs, vr x) → ∀ (a b : List UInt8), bys zs = a ++ c :: b →
    ∃ xs ys, zs = xs ++ (c.toNat : Int) :: ys ∧ bys xs = a ∧ bys ys = b
  | [], _, a, b, h => by simp at h
  | z :: zs, hz, a, b, h => by
    rw [bys_cons] at h
    rcases List.append_eq_append_iff.1 h with ⟨a', h1, h2⟩ | ⟨c', h1, h2⟩
    · obtain ⟨xs, ys, e1, e2, e3⟩ := bys_split hc zs (fun x hx => hz x (by simp [hx])) a' b h2
      exact ⟨z :: xs, ys, by rw [e1]; rfl, by rw [bys_cons, e2, h1], e3⟩
    · cases c' with
      | nil =>
        simp only [List.append_nil, List.nil_append] at h1 h2
        obtain ⟨xs, ys, e1, e2, e3⟩ := bys_split hc zs (fun x hx => hz x (by simp [hx])) [] b (by simpa using h2.symm)
        exact ⟨z :: xs, ys, by rw [e1]; rfl, by rw [bys_cons, e2, ← h1]; simp, e3⟩
      | cons d c'' =>
        simp only [List.cons_append, List.cons.injEq] at h2
        obtain ⟨rfl, h2⟩ := h2
        have hm := mem_encodeRune (hz z (by simp)) hc (h1 ▸ (by simp : c ∈ a ++ c :: c''))
        rw [hm.2] at h1
        have : a = [] ∧ c'' = [] := by
          cases a with
          | nil => simpa using h1
          | cons y a => simp at h1
        obtain ⟨rfl, rfl⟩ := this
        exact ⟨[], zs, by rw [hm.1]; rfl, rfl, by simpa using h2.symm⟩
theorem validD_of_bys {l : List UInt8} (xs : List Int) (h : ∀ x ∈ xs, vr x) (e : bys xs = l) : validD l = true := e ▸ validD_bys xs h
theorem runes_of_bys {l : List UInt8} (xs : List Int) (h : ∀ x ∈ xs, vr x) (e : bys xs = l) : runes l = xs := e ▸ runes_bys xs h
theorem runes_append {a b : List UInt8} (ha : validD a = true) (hb : validD b = true) : runes (a ++ b) = runes a ++ runes b :=
  runes_of_bys _ (fun x hx => (List.mem_append.1 hx).elim (runes_vr a x) (runes_vr b x)) (by rw [bys_append, bys_runes a ha, bys_runes b hb])
theorem validD_append {a b : List UInt8} (ha : validD a = true) (hb : validD b = true) : validD (a ++ b) = true :=
  validD_of_bys (runes a ++ runes b) (fun x hx => (List.mem_append.1 hx).elim (runes_vr a x) (runes_vr b x)) (by rw [bys_append, bys_runes a ha, bys_runes b hb])
theorem validD_parts {c : UInt8} (hc : c.toNat < 128) {a b : List UInt8} (h : validD (a ++ c :: b) = true) : validD a = true ∧ validD b = true ∧ runes (a ++ c :: b) = runes a ++ (c.toNat : Int) :: runes b := by
  have hv := runes_vr (a ++ c :: b)
  obtain ⟨xs, ys, e1, e2, e3⟩ := bys_split hc (runes (a ++ c :: b)) hv a b (bys_runes _ h)
  rw [e1] at hv
  have hx : ∀ x ∈ xs, vr x := fun x hx => hv x (by simp [hx])
  have hy : ∀ x ∈ ys, vr x := fun x hx => hv x (by simp [hx])
  exact ⟨validD_of_bys xs hx e2, validD_of_bys ys hy e3, by rw [e1, runes_of_bys xs hx e2, runes_of_bys ys hy e3]⟩
theorem validD_join {c : UInt8} (hc : c.toNat < 128) {a b : List UInt8} (ha : validD a = true) (hb : validD b = true) : validD (a ++ c :: b) = true := by
  refine validD_append ha ?_
  rw [validD_cons c b hc]; exact hb
theorem runes_inj {a b : List UInt8} (ha : validD a = true) (hb : validD b = true) (h : runes a = runes b) : a = b := by
  rw [← bys_runes a ha, ← bys_runes b hb, h]

end Go.Proofs.YtdoebjnfnmfnnaaDoor.Q
