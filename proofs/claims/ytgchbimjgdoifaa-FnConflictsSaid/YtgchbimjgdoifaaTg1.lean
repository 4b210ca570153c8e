/- Proposals applied together: the plain law. Conditions: none. -/
import Derived.Test.YtgchbimjgdoifaaFp1
namespace Go.Proofs.Ytgchbimjgdoifaa
open Go.RowKit
set_option linter.unusedVariables false
/-- No two of them conflict. -/
def rowB (ps : List Prp) (i : Nat) : Nat → Bool := allN fun k => !conB (ps.getD i noP).a (ps.getD k noP).a
def noneB (ps : List Prp) : Nat → Bool := allN fun i => rowB ps i i
theorem noneB_eq {ps : List Prp} : (decide (0 < ((prs ps ps.length).length : Int))) = !noneB ps ps.length := by
  rw [Bool.eq_iff_iff]
  simp only [decide_eq_true_eq, Bool.not_eq_true']
  constructor
  · intro h
    obtain ⟨x, hx⟩ : ∃ x, x ∈ prs ps ps.length := by
      cases hp : prs ps ps.length with
      | nil => rw [hp] at h; simp at h
      | cons x l => exact ⟨x, by simp⟩
    obtain ⟨i, j, h1, h2, h3, h4, _⟩ := (mem_prs (Nat.le_refl _)).1 hx
    exact allN_no h3 (allN_no h2 (by rw [conB_comm, h4]; rfl))
  · intro h
    by_cases he : prs ps ps.length = []
    · exfalso
      have : noneB ps ps.length = true := by
        refine allN_yes.2 fun j hj => allN_yes.2 fun i hi => ?_
        cases hc : conB (ps.getD j noP).a (ps.getD i noP).a with
        | false => rfl
        | true =>
          have hm : ((ps.getD i noP).i, (ps.getD j noP).i) ∈ prs ps ps.length := (mem_prs (Nat.le_refl _)).2 ⟨i, j, by omega, hi, hj, by rw [conB_comm]; exact hc, rfl⟩
          rw [he] at hm
          simp at hm
      rw [this] at h
      cases h
    · have := List.length_pos_iff.2 he
      omega
/-- The words that stand at a place, of the first k. -/
def atP (ps : List Prp) (m : Nat) : Nat → List ByteArray
  | 0 => []
  | k + 1 => atP ps m k ++ (if (ps.getD k noP).a.p = (m : Int) then (ps.getD k noP).a.ws else [])
/-- A word is struck by one of the first k. -/
def stkB (ps : List Prp) (m : Nat) : Nat → Bool
  | 0 => false
  | k + 1 => stkB ps m k || inB m (ps.getD k noP).a.p ((ps.getD k noP).a.p + (ps.getD k noP).a.n - 1)
/-- What is skipped, behind the first k at a place. -/
def skK (ps : List Prp) (s : Int) (m : Nat) : Nat → Int
  | 0 => s
  | k + 1 => if (ps.getD k noP).a.p = (m : Int) then (if skK ps s m k < (m : Int) + (ps.getD k noP).a.n then (m : Int) + (ps.getD k noP).a.n else skK ps s m k) else skK ps s m k
def skP (ps : List Prp) : Nat → Int
  | 0 => 0
  | m + 1 => skK ps (skP ps m) m ps.length
/-- The text behind the first places. -/
def togK (ss : List ByteArray) (ps : List Prp) : Nat → List ByteArray
  | 0 => []
  | m + 1 => togK ss ps m ++ atP ps m ps.length ++ (if stkB ps m ps.length then [] else (ss[m]?).toList)
theorem skK_char (ps : List Prp) (s : Int) (m : Nat) (b : Int) : ∀ k, (skK ps s m k ≤ b ↔ s ≤ b ∧ ∀ i, i < k → (ps.getD i noP).a.p = (m : Int) → (m : Int) + (ps.getD i noP).a.n ≤ b)
  | 0 => by simp [skK]
  | k + 1 => by
    have ih := skK_char ps s m b k
    have key : (∀ i, i < k + 1 → (ps.getD i noP).a.p = (m : Int) → (m : Int) + (ps.getD i noP).a.n ≤ b) ↔ (∀ i, i < k → (ps.getD i noP).a.p = (m : Int) → (m : Int) + (ps.getD i noP).a.n ≤ b) ∧ ((ps.getD k noP).a.p = (m : Int) → (m : Int) + (ps.getD k noP).a.n ≤ b) := by
      constructor
      · exact fun h => ⟨fun i hi => h i (by omega), h k (by omega)⟩
      · rintro ⟨h1, h2⟩ i hi
        rcases Nat.lt_or_ge i k with h3 | h3
        · exact h1 i h3
        · obtain rfl : i = k := by omega
          exact h2
    rw [key, ← and_assoc, ← ih, skK]
    by_cases hp : (ps.getD k noP).a.p = (m : Int)
    · rw [if_pos hp]
      constructor
      · intro h
        split at h <;> exact ⟨by omega, fun _ => by omega⟩
      · rintro ⟨h1, h2⟩
        have := h2 hp
        split <;> omega
    · rw [if_neg hp]
      exact ⟨fun h => ⟨h, fun h2 => absurd h2 hp⟩, fun h => h.1⟩
theorem skP_char {ps : List Prp} (h0 : ∀ i, i < ps.length → 0 ≤ (ps.getD i noP).a.p) (b : Int) : ∀ m, (skP ps m ≤ b ↔ 0 ≤ b ∧ ∀ i, i < ps.length → (ps.getD i noP).a.p < (m : Int) → (ps.getD i noP).a.p + (ps.getD i noP).a.n ≤ b)
  | 0 => by
    constructor
    · intro h
      exact ⟨h, fun i hi h2 => by have := h0 i hi; omega⟩
    · exact fun h => h.1
  | m + 1 => by
    rw [skP, skK_char, skP_char h0 b m]
    constructor
    · rintro ⟨⟨h1, h2⟩, h3⟩
      refine ⟨h1, fun i hi h4 => ?_⟩
      by_cases h5 : (ps.getD i noP).a.p = (m : Int)
      · have := h3 i hi h5; omega
      · exact h2 i hi (by push_cast at h4; omega)
    · rintro ⟨h1, h2⟩
      exact ⟨⟨h1, fun i hi h3 => h2 i hi (by push_cast; omega)⟩, fun i hi h3 => by have := h2 i hi (by push_cast; omega); omega⟩
theorem stkB_char (ps : List Prp) (m : Nat) : ∀ k, (stkB ps m k = true ↔ ∃ i, i < k ∧ (ps.getD i noP).a.p ≤ (m : Int) ∧ (m : Int) ≤ (ps.getD i noP).a.p + (ps.getD i noP).a.n - 1)
  | 0 => by simp [stkB]
  | k + 1 => by
    rw [stkB, Bool.or_eq_true, stkB_char ps m k]
    unfold inB
    simp only [Bool.and_eq_true, decide_eq_true_eq]
    constructor
    · rintro (⟨i, h1, h2⟩ | h)
      · exact ⟨i, by omega, h2⟩
      · exact ⟨k, by omega, h⟩
    · rintro ⟨i, h1, h2⟩
      rcases Nat.lt_or_ge i k with h3 | h3
      · exact .inl ⟨i, h3, h2⟩
      · obtain rfl : i = k := by omega
        exact .inr h2
/-- What is skipped is what is struck. -/
theorem skip_eq {ps : List Prp} (h0 : ∀ i, i < ps.length → 0 ≤ (ps.getD i noP).a.p) (m : Nat) : (skP ps (m + 1) ≤ (m : Int)) ↔ stkB ps m ps.length = false := by
  rw [skP_char h0]
  constructor
  · rintro ⟨h1, h2⟩
    cases hs : stkB ps m ps.length with
    | false => rfl
    | true =>
      obtain ⟨i, h3, h4, h5⟩ := (stkB_char ps m _).1 hs
      have := h2 i h3 (by push_cast; omega)
      omega
  · intro h
    refine ⟨by omega, fun i hi h2 => ?_⟩
    rcases Int.lt_or_le (m : Int) ((ps.getD i noP).a.p + (ps.getD i noP).a.n) with h3 | h3
    · rw [(stkB_char ps m _).2 ⟨i, hi, by push_cast at h2; omega, by omega⟩] at h
      cases h
    · exact h3
theorem skK_range {ps : List Prp} (hn : ∀ i, i < ps.length → (ps.getD i noP).a.n ≤ 5) {s : Int} {m : Nat} (hs : 0 ≤ s ∧ s ≤ m + 4) : ∀ k, k ≤ ps.length → 0 ≤ skK ps s m k ∧ skK ps s m k ≤ m + 5
  | 0, _ => by rw [skK]; omega
  | k + 1, hk => by
    have ih := skK_range hn hs k (by omega)
    have := hn k (by omega)
    rw [skK]
    split
    · split <;> omega
    · exact ih
theorem skP_range {ps : List Prp} (hn : ∀ i, i < ps.length → (ps.getD i noP).a.n ≤ 5) : ∀ m : Nat, 0 ≤ skP ps m ∧ skP ps m ≤ m + 4
  | 0 => by rw [skP]; omega
  | m + 1 => by
    have := skK_range hn (skP_range hn m) ps.length (Nat.le_refl _)
    rw [skP]
    push_cast
    omega
theorem atP_len {ps : List Prp} (h5 : ∀ i, i < ps.length → (ps.getD i noP).a.ws.length ≤ 5) (m : Nat) : ∀ k, k ≤ ps.length → (atP ps m k).length ≤ 5 * k
  | 0, _ => by simp [atP]
  | k + 1, hk => by
    have := atP_len h5 m k (by omega)
    have := h5 k (by omega)
    rw [atP, List.length_append]
    split
    · omega
    · simp only [List.length_nil]; omega
theorem togK_len {ss : List ByteArray} {ps : List Prp} (h5 : ∀ i, i < ps.length → (ps.getD i noP).a.ws.length ≤ 5) (h8 : ps.length ≤ 8) : ∀ m, (togK ss ps m).length ≤ 41 * m
  | 0 => by simp [togK]
  | m + 1 => by
    have := togK_len (ss := ss) h5 h8 m
    have := atP_len h5 m ps.length (Nat.le_refl _)
    have h1 : (ss[m]?).toList.length ≤ 1 := by cases ss[m]? <;> simp
    rw [togK, List.length_append, List.length_append]
    split
    · simp only [List.length_nil]; omega
    · omega
theorem atP_mem {ps : List Prp} {m : Nat} {s : ByteArray} : ∀ {k}, k ≤ ps.length → s ∈ atP ps m k → ∃ p ∈ ps, s ∈ p.a.ws
  | 0, _, h => by simp [atP] at h
  | k + 1, hk, h => by
    rw [atP, List.mem_append] at h
    rcases h with h | h
    · exact atP_mem (by omega) h
    · split at h
      · rw [getP (show k < ps.length by omega)] at h
        exact ⟨_, List.getElem_mem (show k < ps.length by omega), h⟩
      · simp at h
theorem togK_mem {ss : List ByteArray} {ps : List Prp} {s : ByteArray} : ∀ {m}, s ∈ togK ss ps m → s ∈ ss ∨ ∃ p ∈ ps, s ∈ p.a.ws
  | 0, h => by simp [togK] at h
  | m + 1, h => by
    rw [togK, List.mem_append, List.mem_append] at h
    rcases h with (h | h) | h
    · exact togK_mem h
    · exact .inr (atP_mem (Nat.le_refl _) h)
    · split at h
      · simp at h
      · left
        cases hm : ss[m]? with
        | none => rw [hm] at h; simp at h
        | some x =>
          rw [hm] at h
          obtain rfl : s = x := by simpa using h
          exact List.mem_of_getElem? hm
/-- What ApplyTogether returns. -/
def togO (ss : List ByteArray) (ps : List Prp) : List ByteArray := togK ss ps (ss.length + 1)
def togB (ss : List ByteArray) (ps : List Prp) : Bool := propB ss ps && noneB ps ps.length && wordsB (togO ss ps) 0 20
def togL (ss : List ByteArray) (ps : List Prp) : List ByteArray := if togB ss ps then togO ss ps else []
/-- What the walks ask of proposals that are good. -/
theorem Good8.pn {ps : List Prp} (h : Good8 ps) {i : Nat} (hi : i < ps.length) : (0 ≤ (ps.getD i noP).a.p ∧ (ps.getD i noP).a.p ≤ 20) ∧ (0 ≤ (ps.getD i noP).a.n ∧ (ps.getD i noP).a.n ≤ 5) ∧ (ps.getD i noP).a.ws.length ≤ 5 := by
  rw [getP hi]
  obtain ⟨h1, h2, h3, h4, h5, _⟩ := vldA_range (h.vld _ (List.getElem_mem hi))
  exact ⟨⟨h1, h2⟩, ⟨h3, h4⟩, h5⟩
theorem togO_fit {ss : List ByteArray} {ps : List Prp} (hs : Fit ss) (hf : FitP ps) (hg : Good8 ps) (hn : ss.length ≤ 20) : Fit (togO ss ps) := by
  refine ⟨?_, fun s h => ?_⟩
  · have := togK_len (ss := ss) (fun i hi => (hg.pn hi).2.2) hg.few (ss.length + 1)
    unfold togO
    omega
  · rcases togK_mem h with h | ⟨p, hp, h⟩
    · exact hs.2 s h
    · exact (hf.2.1 p hp).2 s h
end Go.Proofs.Ytgchbimjgdoifaa
