/- Numbers put in order, each once: sorting and dropping neighbours that are equal gives what putting one after the other gives. No program is named here. Conditions: none. -/
import Derived.Lib.SlicesCompact
namespace Go.Proofs.Ytifahgdalgjgfaa
open Go.Lib
set_option linter.unusedVariables false
/-- A number put into a list in order, unless it is there. -/
def putI (x : Int) : List Int → List Int
  | [] => [x]
  | y :: ys => if y < x then y :: putI x ys else if y = x then y :: ys else x :: y :: ys
/-- How many at the head are less. -/
def cntL (x : Int) : List Int → Nat
  | [] => 0
  | y :: ys => if y < x then cntL x ys + 1 else 0
theorem cntL_le (x : Int) : ∀ xs : List Int, cntL x xs ≤ xs.length
  | [] => Nat.le_refl _
  | y :: ys => by
    rw [cntL]
    split
    · have := cntL_le x ys; simp; omega
    · simp
theorem cntL_yes {x : Int} {xs : List Int} {k : Nat} (h : k < xs.length) (hl : xs[k] < x) : k + cntL x (xs.drop k) = (k + 1) + cntL x (xs.drop (k + 1)) := by
  rw [List.drop_eq_getElem_cons h, cntL, if_pos hl]
  omega
theorem cntL_no {x : Int} {xs : List Int} {k : Nat} (h : k < xs.length) (hl : ¬ xs[k] < x) : k + cntL x (xs.drop k) = k := by
  rw [List.drop_eq_getElem_cons h, cntL, if_neg hl]
  omega
theorem cntL_end {x : Int} {xs : List Int} : xs.length + cntL x (xs.drop xs.length) = xs.length := by simp [cntL]
theorem putI_there {x : Int} : ∀ {xs : List Int} (h : cntL x xs < xs.length), xs[cntL x xs] = x → putI x xs = xs
  | [], h, _ => by simp at h
  | y :: ys, h, he => by
    rw [putI]
    by_cases hl : y < x
    · rw [if_pos hl]
      have h2 : cntL x (y :: ys) = cntL x ys + 1 := by rw [cntL, if_pos hl]
      simp only [h2, List.getElem_cons_succ] at he
      simp only [h2, List.length_cons] at h
      rw [putI_there (by omega) he]
    · rw [if_neg hl]
      have h2 : cntL x (y :: ys) = 0 := by rw [cntL, if_neg hl]
      simp only [h2, List.getElem_cons_zero] at he
      rw [if_pos he]
theorem putI_new {x : Int} : ∀ {xs : List Int}, (∀ h : cntL x xs < xs.length, xs[cntL x xs] ≠ x) → putI x xs = xs.take (cntL x xs) ++ (x :: xs.drop (cntL x xs))
  | [], _ => rfl
  | y :: ys, hne => by
    rw [putI]
    by_cases hl : y < x
    · rw [if_pos hl]
      have h2 : cntL x (y :: ys) = cntL x ys + 1 := by rw [cntL, if_pos hl]
      rw [h2, List.take_succ_cons, List.drop_succ_cons, List.cons_append, ← putI_new]
      intro h he
      exact hne (by rw [h2]; simp; omega) (by simp only [h2, List.getElem_cons_succ]; exact he)
    · rw [if_neg hl]
      have h2 : cntL x (y :: ys) = 0 := by rw [cntL, if_neg hl]
      have h3 := hne (by rw [h2]; simp)
      simp only [h2, List.getElem_cons_zero] at h3
      rw [if_neg h3, h2]
      rfl
theorem putI_mem {x a : Int} : ∀ {xs : List Int}, a ∈ putI x xs ↔ a = x ∨ a ∈ xs
  | [] => by simp [putI]
  | y :: ys => by
    rw [putI]
    split
    · rw [List.mem_cons, putI_mem, List.mem_cons]
      constructor
      · rintro (h | h | h) <;> simp [h]
      · rintro (h | h | h) <;> simp [h]
    · split
      · rename_i h1 h2
        subst h2
        simp
      · simp
theorem putI_sorted {x : Int} : ∀ {xs : List Int}, xs.Pairwise (· < ·) → (putI x xs).Pairwise (· < ·)
  | [], _ => by simp [putI]
  | y :: ys, h => by
    rw [putI]
    rw [List.pairwise_cons] at h
    split
    · rename_i hl
      rw [List.pairwise_cons]
      refine ⟨fun a ha => ?_, putI_sorted h.2⟩
      rcases putI_mem.1 ha with rfl | ha
      · exact hl
      · exact h.1 a ha
    · split
      · exact List.pairwise_cons.2 h
      · rename_i h1 h2
        rw [List.pairwise_cons]
        refine ⟨fun a ha => ?_, List.pairwise_cons.2 h⟩
        rcases List.mem_cons.1 ha with rfl | ha
        · omega
        · have := h.1 a ha; omega
theorem putI_len {x : Int} : ∀ {xs : List Int}, (putI x xs).length ≤ xs.length + 1
  | [] => by simp [putI]
  | y :: ys => by
    rw [putI]
    split
    · have := putI_len (x := x) (xs := ys); simp; omega
    · split <;> simp
/-- The numbers put one after the other, the first k. -/
def mvK (xs : List Int) (k : Nat) : List Int := (xs.take k).foldl (fun l x => putI x l) []
theorem mvK_zero (xs : List Int) : mvK xs 0 = [] := rfl
theorem mvK_step {xs : List Int} {k : Nat} (h : k < xs.length) : mvK xs (k + 1) = putI xs[k] (mvK xs k) := by
  unfold mvK
  rw [List.take_succ_eq_append_getElem h, List.foldl_append]
  rfl
theorem mvK_len {xs : List Int} : ∀ k, k ≤ xs.length → (mvK xs k).length ≤ k
  | 0, _ => by simp [mvK_zero]
  | k + 1, h => by
    rw [mvK_step (by omega)]
    have h1 := mvK_len (xs := xs) k (by omega)
    have h2 := putI_len (x := xs[k]) (xs := mvK xs k)
    omega
theorem mvK_sorted {xs : List Int} : ∀ k, k ≤ xs.length → (mvK xs k).Pairwise (· < ·)
  | 0, _ => by rw [mvK_zero]; simp
  | k + 1, h => by rw [mvK_step (by omega)]; exact putI_sorted (mvK_sorted k (by omega))
theorem mvK_mem {xs : List Int} {a : Int} : ∀ k, k ≤ xs.length → (a ∈ mvK xs k ↔ a ∈ xs.take k)
  | 0, _ => by simp [mvK_zero]
  | k + 1, h => by
    rw [mvK_step (by omega), putI_mem, mvK_mem k (by omega), List.take_succ_eq_append_getElem (show k < xs.length by omega), List.mem_append, List.mem_singleton]
    exact Or.comm
theorem strict_ext : ∀ {xs ys : List Int}, xs.Pairwise (· < ·) → ys.Pairwise (· < ·) → (∀ a, a ∈ xs ↔ a ∈ ys) → xs = ys
  | [], [], _, _, _ => rfl
  | [], y :: ys, _, _, h => by have := (h y).2 (by simp); simp at this
  | x :: xs, [], _, _, h => by have := (h x).1 (by simp); simp at this
  | x :: xs, y :: ys, hx, hy, h => by
    rw [List.pairwise_cons] at hx hy
    have e : x = y := by
      have h1 := (h x).1 (by simp)
      have h2 := (h y).2 (by simp)
      rcases List.mem_cons.1 h1 with h1 | h1
      · exact h1
      rcases List.mem_cons.1 h2 with h2 | h2
      · exact h2.symm
      have h3 := hy.1 x h1
      have h4 := hx.1 y h2
      omega
    subst e
    rw [strict_ext hx.2 hy.2 (fun a => ?_)]
    constructor
    · intro ha
      have h1 := (h a).1 (List.mem_cons_of_mem _ ha)
      rcases List.mem_cons.1 h1 with rfl | h1
      · have := hx.1 a ha; omega
      · exact h1
    · intro ha
      have h1 := (h a).2 (List.mem_cons_of_mem _ ha)
      rcases List.mem_cons.1 h1 with rfl | h1
      · have := hy.1 a ha; omega
      · exact h1
theorem compact_strict (d : Array Int) (hs : ∀ i j, i < j → j < d.size → d[i]! ≤ d[j]!) : ∀ m, m ≤ d.size → (compactUpTo d m).Pairwise (· < ·) ∧ ∀ a, a ∈ compactUpTo d m ↔ ∃ j, j < m ∧ d[j]! = a
  | 0, _ => by simp [compactUpTo]
  | m + 1, hm => by
    obtain ⟨h1, h2⟩ := compact_strict d hs m (by omega)
    rw [compactUpTo_succ]
    by_cases hk : m = 0 ∨ d[m]! ≠ d[m - 1]!
    · have hkk : keeps d m = true := by unfold keeps; exact decide_eq_true hk
      rw [hkk]
      refine ⟨?_, fun a => ?_⟩
      · rw [if_pos rfl, List.pairwise_append]
        refine ⟨h1, by simp, fun a ha b hb => ?_⟩
        obtain ⟨j, hj, rfl⟩ := (h2 a).1 ha
        rw [List.mem_singleton] at hb
        subst hb
        rcases hk with hk | hk
        · omega
        have h3 : d[m - 1]! ≤ d[m]! := hs (m - 1) m (by omega) (by omega)
        have h4 : d[j]! ≤ d[m - 1]! := by
          rcases Nat.lt_or_ge j (m - 1) with h | h
          · exact hs j (m - 1) h (by omega)
          · have : j = m - 1 := by omega
            rw [this]; exact Int.le_refl _
        omega
      · rw [if_pos rfl, List.mem_append, h2, List.mem_singleton]
        constructor
        · rintro (⟨j, hj, he⟩ | h)
          · exact ⟨j, by omega, he⟩
          · exact ⟨m, by omega, h.symm⟩
        · rintro ⟨j, hj, he⟩
          rcases Nat.lt_or_ge j m with h | h
          · exact .inl ⟨j, h, he⟩
          · have : j = m := by omega
            subst this; exact .inr he.symm
    · have hkk : keeps d m = false := by unfold keeps; exact decide_eq_false hk
      rw [hkk]
      have h3 : ¬ m = 0 := fun e => hk (.inl e)
      have h4 : d[m]! = d[m - 1]! := Classical.byContradiction fun e => hk (.inr e)
      simp only [Bool.false_eq_true, if_false, List.append_nil]
      refine ⟨h1, fun a => (h2 a).trans ?_⟩
      constructor
      · rintro ⟨j, hj, he⟩
        exact ⟨j, by omega, he⟩
      · rintro ⟨j, hj, he⟩
        rcases Nat.lt_or_ge j m with h | h
        · exact ⟨j, h, he⟩
        · have : j = m := by omega
          subst this
          exact ⟨j - 1, by omega, h4.symm.trans he⟩
/-- The order in which the program has them. -/
def srtI (xs : List Int) : List Int := xs.mergeSort fun x y => decide (x ≤ y)
theorem srtI_len (xs : List Int) : (srtI xs).length = xs.length := List.length_mergeSort xs
theorem srt_compact (xs : List Int) : compact (srtI xs) = mvK xs xs.length := by
  have hp : (srtI xs).Pairwise (fun a b => decide (a ≤ b) = true) := List.pairwise_mergeSort (fun a b c h1 h2 => by simp at *; omega) (fun a b => by simp; omega) xs
  have hg : ∀ i, (hi : i < (srtI xs).length) → (srtI xs).toArray[i]! = (srtI xs)[i] := fun i hi => by simp [hi]
  obtain ⟨h1, h2⟩ := compact_strict (srtI xs).toArray (fun i j hij hj => by
    have hj' : j < (srtI xs).length := by simpa using hj
    rw [hg i (by omega), hg j hj']
    have := List.pairwise_iff_getElem.1 hp i j (by omega) hj' hij
    simpa using this) (srtI xs).length (by simp)
  refine strict_ext h1 (mvK_sorted _ (Nat.le_refl _)) fun a => ?_
  rw [mvK_mem _ (Nat.le_refl _), List.take_length]
  refine (h2 a).trans ?_
  have hm : a ∈ srtI xs ↔ a ∈ xs := List.mem_mergeSort
  rw [← hm]
  constructor
  · rintro ⟨j, hj, rfl⟩
    rw [hg j hj]
    exact List.getElem_mem hj
  · intro ha
    obtain ⟨j, hj, rfl⟩ := List.getElem_of_mem ha
    exact ⟨j, hj, hg j hj⟩
end Go.Proofs.Ytifahgdalgjgfaa
