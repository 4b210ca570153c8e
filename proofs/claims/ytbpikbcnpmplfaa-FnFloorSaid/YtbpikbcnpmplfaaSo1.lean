/- Putting in order by a key, stably: by insertion, and by taking the first least one again and again, give the same. Conditions: none. -/
import Derived.Test.YtbpikbcnpmplfaaLv1
namespace Go.Proofs.Ytbpikbcnpmplfaa
set_option linter.unusedVariables false
/-- A number put behind all whose key is not greater, in a list in order. -/
def insT (t : Int → Int) (x : Int) : List Int → List Int
  | [] => [x]
  | y :: ys => if t x < t y then x :: y :: ys else y :: insT t x ys
def isortT (t : Int → Int) (xs : List Int) : List Int := xs.foldl (fun l x => insT t x l) []
theorem insT_mem {t : Int → Int} {x a : Int} : ∀ {l : List Int}, a ∈ insT t x l ↔ a = x ∨ a ∈ l
  | [] => by simp [insT]
  | y :: ys => by
    rw [insT]
    split
    · simp
    · rw [List.mem_cons, insT_mem, List.mem_cons]
      constructor
      · rintro (h | h | h) <;> simp [h]
      · rintro (h | h | h) <;> simp [h]
theorem foldT_mem {t : Int → Int} {a : Int} : ∀ {xs acc : List Int}, a ∈ xs.foldl (fun l x => insT t x l) acc ↔ a ∈ acc ∨ a ∈ xs
  | [], acc => by simp
  | x :: xs, acc => by
    rw [List.foldl_cons, foldT_mem, insT_mem, List.mem_cons]
    constructor
    · rintro ((h | h) | h) <;> simp [h]
    · rintro (h | h | h) <;> simp [h]
theorem insT_front {t : Int → Int} {x : Int} {l : List Int} (h : ∀ y ∈ l, t x < t y) : insT t x l = x :: l := by
  cases l with
  | nil => rfl
  | cons y ys => rw [insT, if_pos (h y (by simp))]
theorem foldT_head {t : Int → Int} {x : Int} : ∀ {post l : List Int}, (∀ y ∈ post, t x ≤ t y) → post.foldl (fun l x => insT t x l) (x :: l) = x :: post.foldl (fun l x => insT t x l) l
  | [], l, _ => rfl
  | y :: ys, l, h => by
    have h1 : ¬ t y < t x := by have := h y (by simp); omega
    rw [List.foldl_cons, List.foldl_cons, insT, if_neg h1]
    exact foldT_head fun z hz => h z (List.mem_cons_of_mem _ hz)
theorem isortT_min {t : Int → Int} {x : Int} {pre post : List Int} (h1 : ∀ y ∈ pre, t x < t y) (h2 : ∀ y ∈ post, t x ≤ t y) : isortT t (pre ++ x :: post) = x :: isortT t (pre ++ post) := by
  unfold isortT
  rw [List.foldl_append, List.foldl_cons, List.foldl_append]
  rw [insT_front (fun y hy => h1 y (by simpa using foldT_mem.1 hy))]
  exact foldT_head h2
/-- Place k holds the first of the least ones. -/
def FirstMin (t : Int → Int) (xs : List Int) (k : Nat) : Prop := ∃ h : k < xs.length, (∀ i (hi : i < k), t xs[k] < t (xs[i]'(by omega))) ∧ ∀ i (hi : i < xs.length), t xs[k] ≤ t xs[i]
theorem isortT_cut {t : Int → Int} {xs : List Int} {k : Nat} (h : FirstMin t xs k) : isortT t xs = xs[k]'h.1 :: isortT t (cutAt k xs) := by
  obtain ⟨hk, h1, h2⟩ := h
  have hsp : xs = xs.take k ++ (xs[k] :: xs.drop (k + 1)) := by rw [← List.drop_eq_getElem_cons hk, List.take_append_drop]
  unfold cutAt
  conv => lhs; rw [hsp]
  refine isortT_min (fun y hy => ?_) (fun y hy => ?_)
  · obtain ⟨i, hi, rfl⟩ := List.getElem_of_mem hy
    rw [List.length_take] at hi
    rw [List.getElem_take]
    exact h1 i (by omega)
  · obtain ⟨i, hi, rfl⟩ := List.getElem_of_mem hy
    rw [List.length_drop] at hi
    rw [List.getElem_drop]
    exact h2 _ (by omega)
theorem isortT_nil (t : Int → Int) : isortT t [] = [] := rfl
end Go.Proofs.Ytbpikbcnpmplfaa
