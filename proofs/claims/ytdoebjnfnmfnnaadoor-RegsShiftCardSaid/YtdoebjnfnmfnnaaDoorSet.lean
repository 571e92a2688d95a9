/- Plain: a sorted list, an element put in by its key. -/
import Derived.Test.YtdoebjnfnmfnnaaDoorProg
namespace Go.Proofs.YtdoebjnfnmfnnaaDoor.F

/-- An element in its place. -/
def setL {α : Type} (key : α → Int) (x : α) : List α → List α
  | [] => [x]
  | m :: r => if key m < key x then m :: setL key x r else if key m = key x then x :: r else x :: m :: r
/-- How many have a smaller key. -/
def cntL {α : Type} (key : α → Int) (n : Int) (l : List α) : Nat := l.countP fun m => decide (key m < n)
/-- Is one of that key there? -/
def hasL {α : Type} (key : α → Int) (n : Int) (l : List α) : Bool := match l[cntL key n l]? with | some m => decide (key m = n) | none => false
def insL {α : Type} (key : α → Int) (x : α) (l : List α) : List α :=
  if hasL key (key x) l = true then l.set (cntL key (key x) l) x else l.take (cntL key (key x) l) ++ [x] ++ l.drop (cntL key (key x) l)

theorem cnt_zero {α : Type} (key : α → Int) (n : Int) (l : List α) (h : ∀ m ∈ l, n ≤ key m) : cntL key n l = 0 := by
  unfold cntL
  rw [List.countP_eq_zero]
  intro m hm
  have := h m hm
  simp; omega
theorem cnt_cons_lt {α : Type} (key : α → Int) (n : Int) (m : α) (r : List α) (h : key m < n) : cntL key n (m :: r) = cntL key n r + 1 := by
  unfold cntL
  rw [List.countP_cons_of_pos (by simpa using h)]
theorem cnt_le {α : Type} (key : α → Int) (n : Int) (l : List α) : cntL key n l ≤ l.length := List.countP_le_length
/-- Sorted by keys. -/
def Sor {α : Type} (key : α → Int) (l : List α) : Prop := l.Pairwise fun a b => key a < key b
theorem has_cons_lt {α : Type} (key : α → Int) (n : Int) (m : α) (r : List α) (h : key m < n) : hasL key n (m :: r) = hasL key n r := by
  unfold hasL
  rw [cnt_cons_lt key n m r h, List.getElem?_cons_succ]
theorem has_in {α : Type} (key : α → Int) (n : Int) (l : List α) (h : cntL key n l < l.length) : hasL key n l = decide (key (l[cntL key n l]) = n) := by
  unfold hasL
  rw [List.getElem?_eq_getElem h]
theorem has_out {α : Type} (key : α → Int) (n : Int) (l : List α) (h : ¬ cntL key n l < l.length) : hasL key n l = false := by
  unfold hasL
  rw [List.getElem?_eq_none (by omega)]
theorem ins_eq {α : Type} (key : α → Int) (x : α) : ∀ (l : List α), Sor key l → insL key x l = setL key x l
  | [], _ => by simp [insL, setL, hasL, cntL]
  | m :: r, h => by
    have hr := (List.pairwise_cons.1 h).2
    have hm := (List.pairwise_cons.1 h).1
    have ih := ins_eq key x r hr
    by_cases c : key m < key x
    · have e := cnt_cons_lt key (key x) m r c
      have e2 := has_cons_lt key (key x) m r c
      simp only [setL, if_pos c]
      rw [← ih]
      unfold insL
      rw [e2, e]
      by_cases d : hasL key (key x) r = true
      · rw [if_pos d, if_pos d]; simp
      · rw [if_neg d, if_neg d]; simp
    · have e : cntL key (key x) (m :: r) = 0 := cnt_zero key _ _ (by
        intro q hq
        rcases List.mem_cons.1 hq with rfl | hq
        · omega
        · have := hm q hq; omega)
      simp only [setL, if_neg c]
      unfold insL
      rw [e]
      by_cases d : key m = key x
      · have e3 : hasL key (key x) (m :: r) = true := by
          unfold hasL
          rw [e, List.getElem?_cons_zero]
          exact decide_eq_true d
        rw [if_pos e3, if_pos d]; simp
      · have e3 : ¬ hasL key (key x) (m :: r) = true := by
          unfold hasL
          rw [e, List.getElem?_cons_zero]
          simpa using d
        rw [if_neg e3, if_neg d]; simp
theorem sor_le {α : Type} (key : α → Int) {l : List α} (h : Sor key l) {i j : Nat} (hij : i ≤ j) (hj : j < l.length) : key (l[i]'(by omega)) ≤ key l[j] := by
  rcases Nat.lt_or_ge i j with c | c
  · exact Int.le_of_lt (List.pairwise_iff_getElem.1 h i j (by omega) hj c)
  · obtain rfl : i = j := by omega
    exact Int.le_refl _
/-- Where binary search ends: there are so many smaller ones. -/
theorem cnt_at {α : Type} (key : α → Int) (n : Int) : ∀ (l : List α) (i : Nat) (hi : i ≤ l.length), (∀ t (h : t < i), key (l[t]'(by omega)) < n) → (∀ t (h : t < l.length), i ≤ t → n ≤ key l[t]) → cntL key n l = i
  | [], i, hi, _, _ => by simp at hi; simp [cntL, hi]
  | m :: r, 0, _, _, h2 => cnt_zero key n _ fun q hq => by
    obtain ⟨t, ht, rfl⟩ := List.getElem_of_mem hq
    exact h2 t ht (by omega)
  | m :: r, i + 1, hi, h1, h2 => by
    have h0 : key m < n := by simpa using h1 0 (by omega)
    rw [cnt_cons_lt key n m r h0, cnt_at key n r i (by simpa using hi) (fun t ht => by simpa using h1 (t + 1) (by omega)) (fun t ht h3 => by have z := h2 (t + 1) (by simpa using ht) (by omega); rwa [List.getElem_cons_succ] at z)]
end Go.Proofs.YtdoebjnfnmfnnaaDoor.F
