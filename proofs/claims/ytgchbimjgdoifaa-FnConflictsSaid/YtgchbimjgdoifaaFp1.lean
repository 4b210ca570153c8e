/- The proposals that conflict with no other one: the plain law. Conditions: none. -/
import Derived.Test.YtgchbimjgdoifaaDk7
namespace Go.Proofs.Ytgchbimjgdoifaa
open Go.RowKit
set_option linter.unusedVariables false
theorem conB_comm (a b : Amd) : conB a b = conB b a := by
  have h1 : decide ((if a.p < b.p then b.p else a.p) < (if b.p + b.n < a.p + a.n then b.p + b.n else a.p + a.n)) = decide ((if b.p < a.p then a.p else b.p) < (if a.p + a.n < b.p + b.n then a.p + a.n else b.p + b.n)) := by
    rw [decide_eq_decide]
    split <;> split <;> split <;> split <;> omega
  have h2 : (a.p == b.p) = (b.p == a.p) := by rw [Bool.eq_iff_iff]; simp; omega
  unfold conB
  rw [h1, h2]
  cases insB a <;> cases insB b <;> cases aroundB b a.p <;> cases aroundB a b.p <;> simp
/-- The numbers ascend. -/
def Asc (ps : List Prp) : Prop := ∀ i j, i < j → j < ps.length → (ps.getD i noP).i < (ps.getD j noP).i
theorem Asc.of {ss : List ByteArray} {ps : List Prp} (h : propB ss ps = true) : Asc ps := by
  unfold propB at h
  simp only [Bool.and_eq_true] at h
  have h2 := allN_yes.1 h.2
  have step : ∀ j, j + 1 < ps.length → (ps.getD j noP).i < (ps.getD (j + 1) noP).i := by
    intro j hj
    have := h2 (j + 1) hj
    rw [okP_eq hj] at this
    simp only [Bool.and_eq_true, Bool.or_eq_true, decide_eq_true_eq] at this
    rw [getP hj, getP (show j < ps.length by omega)]
    rcases this.2 with h3 | h3
    · simp at h3
    · exact h3
  intro i j hij hj
  induction j with
  | zero => omega
  | succ j ih =>
    rcases Nat.lt_or_ge i j with h3 | h3
    · exact Int.lt_trans (ih h3 (by omega)) (step j hj)
    · obtain rfl : i = j := by omega
      exact step i hj
theorem Asc.ne {ps : List Prp} (h : Asc ps) {i j : Nat} (hi : i < ps.length) (hj : j < ps.length) (he : (ps.getD i noP).i = (ps.getD j noP).i) : i = j := by
  rcases Nat.lt_trichotomy i j with h1 | h1 | h1
  · have := h i j h1 hj; omega
  · exact h1
  · have := h j i h1 hi; omega
theorem mem_inn {ps : List Prp} {i : Nat} {x : Int × Int} : ∀ {m : Nat}, x ∈ inn ps i m ↔ ∃ t, t < m ∧ conB (ps.getD i noP).a (ps.getD (i + 1 + t) noP).a = true ∧ x = ((ps.getD i noP).i, (ps.getD (i + 1 + t) noP).i)
  | 0 => by simp [inn]
  | m + 1 => by
    rw [inn, List.mem_append, mem_inn (m := m)]
    constructor
    · rintro (⟨t, h1, h2, h3⟩ | h)
      · exact ⟨t, by omega, h2, h3⟩
      · split at h
        · rename_i hc
          exact ⟨m, by omega, hc, by simpa using h⟩
        · simp at h
    · rintro ⟨t, h1, h2, h3⟩
      rcases Nat.lt_or_ge t m with h4 | h4
      · exact .inl ⟨t, h4, h2, h3⟩
      · obtain rfl : t = m := by omega
        right
        rw [if_pos h2]
        simpa using h3
theorem mem_prs {ps : List Prp} {x : Int × Int} : ∀ {n : Nat}, n ≤ ps.length → (x ∈ prs ps n ↔ ∃ i j, i < n ∧ i < j ∧ j < ps.length ∧ conB (ps.getD i noP).a (ps.getD j noP).a = true ∧ x = ((ps.getD i noP).i, (ps.getD j noP).i))
  | 0, _ => by simp [prs]
  | n + 1, hn => by
    rw [prs, List.mem_append, mem_prs (n := n) (by omega), mem_inn]
    constructor
    · rintro (⟨i, j, h1, h2, h3, h4, h5⟩ | ⟨t, h1, h2, h3⟩)
      · exact ⟨i, j, by omega, h2, h3, h4, h5⟩
      · exact ⟨n, n + 1 + t, by omega, by omega, by omega, h2, h3⟩
    · rintro ⟨i, j, h1, h2, h3, h4, h5⟩
      rcases Nat.lt_or_ge i n with h6 | h6
      · exact .inl ⟨i, j, h6, h2, h3, h4, h5⟩
      · obtain rfl : i = n := by omega
        right
        refine ⟨j - (i + 1), by omega, ?_⟩
        rw [show i + 1 + (j - (i + 1)) = j by omega]
        exact ⟨h4, h5⟩
/-- A number stands in a pair. -/
def hasId (id : Int) (xs : List (Int × Int)) : Bool := xs.any fun x => x.1 == id || x.2 == id
/-- Element i conflicts with none of the first n. -/
def loneB (ps : List Prp) (i : Nat) : Nat → Bool := allN fun k => decide ((i : Int) = (k : Int)) || !conB (ps.getD i noP).a (ps.getD k noP).a
theorem lone_eq {ps : List Prp} (h : Asc ps) {i : Nat} (hi : i < ps.length) : (!hasId (ps.getD i noP).i (prs ps ps.length)) = loneB ps i ps.length := by
  rw [Bool.eq_iff_iff]
  unfold loneB
  rw [allN_yes]
  simp only [Bool.not_eq_true', Bool.or_eq_true, decide_eq_true_eq]
  constructor
  · intro hn k hk
    by_cases hik : (i : Int) = (k : Int)
    · exact .inl hik
    · right
      cases hc : conB (ps.getD i noP).a (ps.getD k noP).a with
      | false => rfl
      | true =>
        exfalso
        have hy : hasId (ps.getD i noP).i (prs ps ps.length) = true := by
          unfold hasId
          rw [List.any_eq_true]
          rcases Nat.lt_or_ge i k with h1 | h1
          · exact ⟨_, (mem_prs (Nat.le_refl _)).2 ⟨i, k, hi, h1, hk, hc, rfl⟩, by simp⟩
          · exact ⟨_, (mem_prs (Nat.le_refl _)).2 ⟨k, i, hk, by omega, hi, by rw [conB_comm]; exact hc, rfl⟩, by simp⟩
        rw [hy] at hn
        cases hn
  · intro hall
    cases hy : hasId (ps.getD i noP).i (prs ps ps.length) with
    | false => rfl
    | true =>
      exfalso
      unfold hasId at hy
      rw [List.any_eq_true] at hy
      obtain ⟨x, hx, hx2⟩ := hy
      obtain ⟨a, b, h1, h2, h3, h4, rfl⟩ := (mem_prs (Nat.le_refl _)).1 hx
      simp only [Bool.or_eq_true, beq_iff_eq] at hx2
      rcases hx2 with h5 | h5
      · obtain rfl := h.ne h1 hi h5
        rcases hall b h3 with h6 | h6
        · omega
        · rw [h4] at h6; cases h6
      · obtain rfl := h.ne h3 hi h5
        rcases hall a h1 with h6 | h6
        · omega
        · rw [conB_comm, h4] at h6; cases h6
/-- The numbers of those that conflict with no other one, among the first k. -/
def frL (ps : List Prp) : Nat → List Int
  | 0 => []
  | k + 1 => frL ps k ++ (if loneB ps k ps.length then [(ps.getD k noP).i] else [])
theorem frL_len (ps : List Prp) : ∀ k, (frL ps k).length ≤ k
  | 0 => by simp [frL]
  | k + 1 => by
    have := frL_len ps k
    rw [frL, List.length_append]
    split <;> simp <;> omega
theorem frL_yes {ps : List Prp} {k : Nat} (hk : k < ps.length) (h : loneB ps k ps.length = true) : frL ps (k + 1) = frL ps k ++ [ps[k].i] := by
  rw [frL, if_pos h, getP hk]
theorem frL_no {ps : List Prp} {k : Nat} (h : loneB ps k ps.length = false) : frL ps (k + 1) = frL ps k := by
  rw [frL, h]; simp
def freeL (ss : List ByteArray) (ps : List Prp) : List Int := if propB ss ps then frL ps ps.length else []
theorem loneB_step {ps : List Prp} {i k : Nat} : loneB ps i (k + 1) = (loneB ps i k && (decide ((i : Int) = (k : Int)) || !conB (ps.getD i noP).a (ps.getD k noP).a)) := rfl
end Go.Proofs.Ytgchbimjgdoifaa
