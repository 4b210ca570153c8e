/- Stable sorting by a key, and lists taken apart by a key. No program is named here. Conditions: the ranges named. -/
import Derived.Test.YtifahgdalgjgfaaKit
namespace Go.Proofs.Ytifahgdalgjgfaa
open Go.RowKit
set_option linter.unusedVariables false
section
variable {α : Type} {t : α → Int} {z0 : α}
def insG (t : α → Int) (x : α) : List α → List α
  | [] => [x]
  | y :: l => if t x < t y then x :: y :: l else y :: insG t x l
def isortG (t : α → Int) (xs : List α) : List α := xs.foldl (fun l x => insG t x l) []
theorem insG_mem {x z : α} : ∀ {l : List α}, z ∈ insG t x l ↔ z = x ∨ z ∈ l
  | [] => by simp [insG]
  | y :: l => by
    rw [insG]
    split
    · simp
    · rw [List.mem_cons, insG_mem, List.mem_cons]
      constructor
      · rintro (h | h | h)
        · exact .inr (.inl h)
        · exact .inl h
        · exact .inr (.inr h)
      · rintro (h | h | h)
        · exact .inr (.inl h)
        · exact .inl h
        · exact .inr (.inr h)
theorem insG_front {x : α} {l : List α} (h : ∀ y ∈ l, t x < t y) : insG t x l = x :: l := by
  cases l with
  | nil => rfl
  | cons y l => rw [insG, if_pos (h y (by simp))]
theorem insG_pass {x : α} : ∀ {l r : List α}, (∀ y ∈ l, ¬ t x < t y) → insG t x (l ++ r) = l ++ insG t x r
  | [], _, _ => rfl
  | y :: l, r, h => by
    rw [List.cons_append, insG, if_neg (h y (by simp)), insG_pass (fun z hz => h z (List.mem_cons_of_mem _ hz))]
    rfl
def midG (L : List α) (y : α) (R : List α) (j : Nat) : List α := L.take j ++ (y :: (L.drop j ++ R))
theorem midG_len {L R : List α} {y : α} {j : Nat} : (midG L y R j).length = L.length + 1 + R.length := by
  unfold midG
  rw [List.length_append, List.length_cons, List.length_append, List.length_take, List.length_drop]
  omega
theorem midG_get {L R : List α} {y : α} {j : Nat} (h : j ≤ L.length) : (midG L y R j)[j]? = some y := by
  unfold midG
  rw [List.getElem?_append_right (by rw [List.length_take]; omega), List.length_take, show j - min j L.length = 0 by omega]
  rfl
theorem midG_prev {L R : List α} {y : α} {j : Nat} (h : j < L.length) : (midG L y R (j + 1))[j]? = some L[j] := by
  unfold midG
  rw [List.getElem?_append_left (by rw [List.length_take]; omega), List.getElem?_take, if_pos (by omega), List.getElem?_eq_getElem h]
theorem midG_swap {L R : List α} {y : α} {j : Nat} (h : j < L.length) : ((midG L y R (j + 1)).set (j + 1) L[j]).set j y = midG L y R j := by
  have h1 : L.take (j + 1) = L.take j ++ [L[j]] := by rw [List.take_add_one, List.getElem?_eq_getElem h]; rfl
  have h2 : L.drop j = L[j] :: L.drop (j + 1) := List.drop_eq_getElem_cons h
  have hl : (L.take j).length = j := by rw [List.length_take]; omega
  unfold midG
  rw [h1, h2, List.append_assoc, List.set_append, if_neg (by omega), hl, List.set_append, if_neg (by omega), hl]
  simp
  rw [h2]
  rfl
theorem insG_sorted {y : α} : ∀ {L : List α}, L.Pairwise (fun a b => t a ≤ t b) → (insG t y L).Pairwise (fun a b => t a ≤ t b)
  | [], _ => by simp [insG]
  | x :: xs, h => by
    rw [List.pairwise_cons] at h
    rw [insG]
    split
    · rename_i h1
      refine List.pairwise_cons.2 ⟨fun z hz => ?_, List.pairwise_cons.2 h⟩
      rcases List.mem_cons.1 hz with rfl | hz
      · omega
      · have := h.1 z hz; omega
    · rename_i h1
      refine List.pairwise_cons.2 ⟨fun z hz => ?_, insG_sorted h.2⟩
      rcases insG_mem.1 hz with rfl | hz
      · omega
      · exact h.1 z hz
theorem foldG_sorted : ∀ {xs acc : List α}, acc.Pairwise (fun a b => t a ≤ t b) → (xs.foldl (fun l x => insG t x l) acc).Pairwise (fun a b => t a ≤ t b)
  | [], _, h => h
  | x :: xs, _, h => foldG_sorted (xs := xs) (insG_sorted h)
theorem isortG_sorted (t : α → Int) (xs : List α) : (isortG t xs).Pairwise (fun a b => t a ≤ t b) := foldG_sorted (by simp)
theorem insG_len {y : α} : ∀ {L : List α}, (insG t y L).length = L.length + 1
  | [] => rfl
  | x :: xs => by
    rw [insG]
    split
    · rfl
    · rw [List.length_cons, insG_len]; rfl
theorem foldG_len : ∀ {xs acc : List α}, (xs.foldl (fun l x => insG t x l) acc).length = acc.length + xs.length
  | [], _ => rfl
  | x :: xs, acc => by rw [List.foldl_cons, foldG_len, insG_len, List.length_cons]; omega
theorem isortG_len (t : α → Int) (xs : List α) : (isortG t xs).length = xs.length := by unfold isortG; rw [foldG_len]; simp
theorem foldG_mem {z : α} : ∀ {xs acc : List α}, z ∈ xs.foldl (fun l x => insG t x l) acc ↔ z ∈ xs ∨ z ∈ acc
  | [], acc => by simp
  | x :: xs, acc => by
    rw [List.foldl_cons, foldG_mem, insG_mem, List.mem_cons]
    constructor
    · rintro (h | h | h)
      · exact .inl (.inr h)
      · exact .inl (.inl h)
      · exact .inr h
    · rintro ((h | h) | h)
      · exact .inr (.inl h)
      · exact .inl h
      · exact .inr (.inr h)
theorem isortG_mem {z : α} {xs : List α} : z ∈ isortG t xs ↔ z ∈ xs := by unfold isortG; rw [foldG_mem]; simp
theorem isortG_snoc {xs : List α} {x : α} : isortG t (xs ++ [x]) = insG t x (isortG t xs) := by unfold isortG; rw [List.foldl_append]; rfl
theorem isortG_step {xs : List α} {i : Nat} (h : i < xs.length) : isortG t (xs.take (i + 1)) = insG t xs[i] (isortG t (xs.take i)) := by
  unfold isortG
  rw [List.take_add_one, List.getElem?_eq_getElem h, List.foldl_append]
  rfl
theorem insG_at {y : α} : ∀ {L : List α} {j : Nat}, L.Pairwise (fun a b => t a ≤ t b) → j ≤ L.length → (∀ z ∈ L.drop j, t y < t z) → (∀ p, j = p + 1 → ∀ h : p < L.length, ¬ t y < t L[p]) → insG t y L = L.take j ++ (y :: L.drop j)
  | [], j, _, _, _, _ => by simp [insG]
  | x :: xs, 0, _, _, h, _ => by rw [insG_front (by simpa using h)]; rfl
  | x :: xs, j + 1, hs, hj, h, hp => by
    rw [List.pairwise_cons] at hs
    have h0 : ¬ t y < t x := by
      have h1 := hp j rfl (by rw [List.length_cons] at hj ⊢; omega)
      cases j with
      | zero => exact h1
      | succ p =>
        rw [List.getElem_cons_succ] at h1
        have h2 := hs.1 (xs[p]'(by rw [List.length_cons] at hj; omega)) (List.getElem_mem _)
        omega
    rw [insG, if_neg h0, insG_at hs.2 (by rw [List.length_cons] at hj; omega) (fun z hz => h z hz) (fun p hp1 hpl => ?_)]
    · rfl
    · have h1 := hp (p + 1) (by omega) (by rw [List.length_cons]; omega)
      rwa [List.getElem_cons_succ] at h1
def midH (t : α → Int) (z0 : α) (xs : List α) (i j : Nat) : List α := midG (isortG t (xs.take i)) (xs.getD i z0) (xs.drop (i + 1)) j
def rowH (t : α → Int) (xs : List α) (i : Nat) : List α := isortG t (xs.take i) ++ xs.drop i
theorem rowH_len {xs : List α} {i : Nat} : (rowH t xs i).length = xs.length := by
  unfold rowH; rw [List.length_append, isortG_len, List.length_take, List.length_drop]; omega
theorem tkG_len {xs : List α} {i : Nat} (h : i < xs.length) : (isortG t (xs.take i)).length = i := by rw [isortG_len, List.length_take]; omega
theorem midH_len {xs : List α} {i j : Nat} (h : i < xs.length) : (midH t z0 xs i j).length = xs.length := by
  unfold midH; rw [midG_len, tkG_len h, List.length_drop]; omega
theorem midH_start {xs : List α} {i : Nat} (h : i < xs.length) : midH t z0 xs i i = rowH t xs i := by
  have h1 := tkG_len (t := t) h
  unfold midH midG rowH
  rw [List.take_of_length_le (by omega), List.drop_of_length_le (by omega), List.nil_append, List.drop_eq_getElem_cons h, List.getD_eq_getElem?_getD, List.getElem?_eq_getElem h]
  rfl
theorem midH_end {xs : List α} {i j : Nat} (h : i < xs.length) (hj : j ≤ i) (h1 : ∀ z ∈ (isortG t (xs.take i)).drop j, t (xs.getD i z0) < t z) (h2 : ∀ p, j = p + 1 → ∀ h : p < (isortG t (xs.take i)).length, ¬ t (xs.getD i z0) < t (isortG t (xs.take i))[p]) : midH t z0 xs i j = rowH t xs (i + 1) := by
  have e : xs.getD i z0 = xs[i] := by rw [List.getD_eq_getElem?_getD, List.getElem?_eq_getElem h]; rfl
  unfold midH midG rowH
  rw [isortG_step h, ← e, insG_at (isortG_sorted t _) (by rw [tkG_len h]; exact hj) h1 h2]
  simp
theorem rowH_start (t : α → Int) (xs : List α) : rowH t xs 1 = xs := by
  unfold rowH
  cases xs with
  | nil => rfl
  | cons x l => rfl
theorem rowH_end (t : α → Int) (xs : List α) {i : Nat} (h : xs.length ≤ i) : rowH t xs i = isortG t xs := by
  unfold rowH; rw [List.take_of_length_le h, List.drop_of_length_le h, List.append_nil]
/-! ### Lists taken apart by a key -/
def buck (r : α → Int) (ks : List Int) (xs : List α) : List α := ks.flatMap fun a => xs.filter (fun x => r x == a)
theorem buck_none {r : α → Int} {ks : List Int} {xs : List α} {x : α} (h : r x ∉ ks) : buck r ks (xs ++ [x]) = buck r ks xs := by
  induction ks with
  | nil => rfl
  | cons a ks ih =>
    rw [List.mem_cons, not_or] at h
    unfold buck at ih ⊢
    rw [List.flatMap_cons, List.flatMap_cons, ih h.2, List.filter_append]
    have : ([x].filter fun x => r x == a) = [] := by simp [h.1]
    rw [this, List.append_nil]
theorem buck_mem {r : α → Int} {ks : List Int} {xs : List α} {y : α} : y ∈ buck r ks xs ↔ y ∈ xs ∧ r y ∈ ks := by
  unfold buck
  rw [List.mem_flatMap]
  constructor
  · rintro ⟨a, h1, h2⟩
    obtain ⟨h3, h4⟩ := List.mem_filter.1 h2
    have h5 : r y = a := by simpa using h4
    exact ⟨h3, by rw [h5]; exact h1⟩
  · rintro ⟨h1, h2⟩
    exact ⟨r y, h2, List.mem_filter.2 ⟨h1, by simp⟩⟩
theorem buck_ins {r : α → Int} {x : α} : ∀ {ks : List Int} {xs : List α}, ks.Pairwise (fun a b => b < a) → r x ∈ ks → insG (fun y => - r y) x (buck r ks xs) = buck r ks (xs ++ [x])
  | [], _, _, h => absurd h (by simp)
  | a :: ks, xs, hs, h => by
    rw [List.pairwise_cons] at hs
    have e : ∀ l : List α, buck r (a :: ks) l = l.filter (fun y => r y == a) ++ buck r ks l := fun l => by unfold buck; rw [List.flatMap_cons]
    rw [e, e]
    have hge : ∀ y ∈ xs.filter (fun y => r y == a), ¬ - r x < - r y := fun y hy => by
      have h1 : r y = a := by simpa using (List.mem_filter.1 hy).2
      rcases List.mem_cons.1 h with h2 | h2
      · omega
      · have := hs.1 _ h2; omega
    rw [insG_pass hge]
    rcases Int.lt_or_le (r x) a with hlt | hle
    · have hx : r x ∈ ks := by
        rcases List.mem_cons.1 h with h2 | h2
        · omega
        · exact h2
      rw [buck_ins hs.2 hx, List.filter_append]
      have : ([x].filter fun y => r y == a) = [] := by simp; omega
      rw [this, List.append_nil]
    · have hxa : r x = a := by
        rcases List.mem_cons.1 h with h2 | h2
        · exact h2
        · have := hs.1 _ h2; omega
      have hno : r x ∉ ks := fun h2 => by have := hs.1 _ h2; omega
      rw [buck_none hno, insG_front (fun y hy => by have := hs.1 _ (buck_mem.1 hy).2; omega), List.filter_append]
      have : ([x].filter fun y => r y == a) = [x] := by simp [hxa]
      rw [this, List.append_assoc]
      rfl
theorem isort_buck {r : α → Int} {ks : List Int} (hs : ks.Pairwise (fun a b => b < a)) : ∀ {n : Nat} {xs : List α}, xs.length = n → isortG (fun y => - r y) (xs.filter (fun x => decide (r x ∈ ks))) = buck r ks xs
  | 0, xs, h => by
    obtain rfl := List.eq_nil_of_length_eq_zero h
    induction ks with
    | nil => rfl
    | cons a ks ih => unfold buck at ih ⊢; rw [List.flatMap_cons]; exact ih (List.pairwise_cons.1 hs).2
  | n + 1, xs, h => by
    obtain ⟨ys, x, rfl⟩ : ∃ ys x, xs = ys ++ [x] := by
      have hne : xs ≠ [] := by intro e; subst e; simp at h
      exact ⟨xs.dropLast, xs.getLast hne, (List.dropLast_concat_getLast hne).symm⟩
    have hl : ys.length = n := by simpa using h
    rw [List.filter_append]
    by_cases c : r x ∈ ks
    · have : ([x].filter fun x => decide (r x ∈ ks)) = [x] := by simp [c]
      rw [this, isortG_snoc, isort_buck hs hl, buck_ins hs c]
    · have : ([x].filter fun x => decide (r x ∈ ks)) = [] := by simp [c]
      rw [this, List.append_nil, isort_buck hs hl, buck_none c]
end
end Go.Proofs.Ytifahgdalgjgfaa
