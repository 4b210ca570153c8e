/- The heaviest set: the plain law. Conditions: none. -/
import Derived.Test.YtgchbimjgdoifaaTg1
namespace Go.Proofs.Ytgchbimjgdoifaa
open Go.RowKit
set_option linter.unusedVariables false
def cmpI (x y : Int) : Int := if x < y then -1 else if y < x then 1 else 0
def cmpL : List Int → List Int → Int
  | [], [] => 0
  | [], _ :: _ => -1
  | _ :: _, [] => 1
  | x :: xs, y :: ys => if cmpI x y = 0 then cmpL xs ys else cmpI x y
def lexB : List Int → List Int → Bool
  | [], [] => false
  | [], _ :: _ => true
  | _ :: _, [] => false
  | x :: xs, y :: ys => if x = y then lexB xs ys else decide (x < y)
theorem lexB_cmp : ∀ a b, lexB a b = decide (cmpL a b < 0)
  | [], [] => rfl
  | [], _ :: _ => rfl
  | _ :: _, [] => rfl
  | x :: xs, y :: ys => by
    rw [lexB, cmpL]
    by_cases h : x = y
    · subst h
      have h0 : cmpI x x = 0 := by unfold cmpI; simp
      rw [if_pos rfl, if_pos h0]
      exact lexB_cmp xs ys
    · have h0 : ¬ cmpI x y = 0 := by unfold cmpI; split <;> (try split) <;> omega
      rw [if_neg h, if_neg h0, decide_eq_decide]
      unfold cmpI
      split <;> (try split) <;> omega
theorem cmpL_range : ∀ a b, -1 ≤ cmpL a b ∧ cmpL a b ≤ 1
  | [], [] => by simp [cmpL]
  | [], _ :: _ => by simp [cmpL]
  | _ :: _, [] => by simp [cmpL]
  | x :: xs, y :: ys => by
    rw [cmpL]
    split
    · exact cmpL_range xs ys
    · unfold cmpI; split <;> (try split) <;> omega
/-- The first that is not zero. -/
def orI (a b c : Int) : Int := if a ≠ 0 then a else if b ≠ 0 then b else c
/-- A set beats the best one so far. -/
def beats (ids best : List Int) (w most : Int) : Bool := decide (orI (cmpI most w) (cmpI ids.length best.length) (cmpL ids best) < 0)
theorem beats_eq (ids best : List Int) (w most : Int) : beats ids best w most = (!(decide (w < most) || (w == most && decide ((best.length : Int) < ids.length))) && (decide (most < w) || decide ((ids.length : Int) < best.length) || lexB ids best)) := by
  rw [lexB_cmp]
  unfold beats orI
  have hL := cmpL_range ids best
  generalize cmpL ids best = L at *
  unfold cmpI
  rcases Int.lt_trichotomy most w with h | h | h
  · have h1 : ¬ w < most := by omega
    have h2 : (w == most) = false := by simp; omega
    simp [h, h1, h2]
  · subst h
    rcases Int.lt_trichotomy (ids.length : Int) best.length with h | h | h
    · have h3 : ids.length < best.length := by omega
      have h4 : ¬ best.length < ids.length := by omega
      simp [h3, h4]
    · have h3 : ¬ ids.length < best.length := by omega
      have h4 : ¬ best.length < ids.length := by omega
      simp [h3, h4]
    · have h3 : ¬ ids.length < best.length := by omega
      have h4 : best.length < ids.length := by omega
      simp [h3, h4]
  · have h1 : ¬ most < w := by omega
    simp [h, h1]
/-- Proposal k belongs to set s. -/
def bitB (s k : Nat) : Bool := (s / 2 ^ k) % 2 == 1
def pickL (ps : List Prp) (s : Nat) : Nat → List Prp
  | 0 => []
  | k + 1 => pickL ps s k ++ (if bitB s k then [ps.getD k noP] else [])
def idsL (ps : List Prp) : List Int := ps.map (·.i)
def sumT : List Prp → Int
  | [] => 0
  | p :: ps => p.t + sumT ps
theorem sumT_snoc (ps : List Prp) (p : Prp) : sumT (ps ++ [p]) = sumT ps + p.t := by
  induction ps with
  | nil => simp [sumT]
  | cons q ps ih => simp only [List.cons_append, sumT, ih]; omega
theorem idsL_snoc (ps : List Prp) (p : Prp) : idsL (ps ++ [p]) = idsL ps ++ [p.i] := by simp [idsL]
theorem idsL_len (ps : List Prp) : (idsL ps).length = ps.length := by simp [idsL]
theorem pick_yes {ps : List Prp} {s k : Nat} {p : Prp} (hk : k < ps.length) (hp : ps[k] = p) (h : bitB s k = true) : pickL ps s (k + 1) = pickL ps s k ++ [p] := by subst hp; rw [pickL, h, getP hk]; rfl
theorem pick_no {ps : List Prp} {s k : Nat} (h : bitB s k = false) : pickL ps s (k + 1) = pickL ps s k := by rw [pickL, h]; simp
theorem pick_len (ps : List Prp) (s : Nat) : ∀ k, (pickL ps s k).length ≤ k
  | 0 => by simp [pickL]
  | k + 1 => by
    have := pick_len ps s k
    rw [pickL, List.length_append]
    split
    · simp only [List.length_cons, List.length_nil]; omega
    · simp only [List.length_nil]; omega
theorem pick_mem {ps : List Prp} {s : Nat} {q : Prp} : ∀ {k}, k ≤ ps.length → q ∈ pickL ps s k → q ∈ ps
  | 0, _, h => by simp [pickL] at h
  | k + 1, hk, h => by
    rw [pickL, List.mem_append] at h
    rcases h with h | h
    · exact pick_mem (by omega) h
    · split at h
      · rw [getP (show k < ps.length by omega)] at h
        obtain rfl : q = _ := by simpa using h
        exact List.getElem_mem _
      · simp at h
def stepH (ps : List Prp) (b : List Int × Int) (s : Nat) : List Int × Int :=
  if noneB (pickL ps s ps.length) (pickL ps s ps.length).length && beats (idsL (pickL ps s ps.length)) b.1 (sumT (pickL ps s ps.length)) b.2 then (idsL (pickL ps s ps.length), sumT (pickL ps s ps.length)) else b
def heavK (ps : List Prp) : Nat → List Int × Int
  | 0 => ([], 0)
  | s + 1 => stepH ps (heavK ps s) s
def heavR (ss : List ByteArray) (ps : List Prp) : List Int × Int := if propB ss ps then heavK ps (2 ^ ps.length) else ([], 0)
theorem Good8.pick {ps : List Prp} (h : Good8 ps) {s k : Nat} (hk : k ≤ ps.length) : Good8 (pickL ps s k) := ⟨Nat.le_trans (pick_len ps s k) (Nat.le_trans hk h.few), fun p hp => h.vld p (pick_mem hk hp)⟩
theorem cntW_le5 : ∀ {ps : List Prp}, (∀ p ∈ ps, p.a.ws.length ≤ 5) → cntW ps ≤ 5 * ps.length
  | [], _ => by simp [cntW]
  | p :: ps, h => by
    have h1 := h p (by simp)
    have h2 := cntW_le5 (ps := ps) fun q hq => h q (by simp [hq])
    simp only [cntW, List.length_cons]
    omega
theorem FitP.pick {ps : List Prp} (h : FitP ps) (hg : Good8 ps) {s k : Nat} (hk : k ≤ ps.length) : FitP (pickL ps s k) := by
  have h1 := (hg.pick (s := s) hk)
  refine ⟨by have := h1.few; omega, fun p hp => h.2.1 p (pick_mem hk hp), ?_⟩
  have := cntW_le5 (ps := pickL ps s k) fun p hp => (vldA_range (h1.vld p hp)).2.2.2.2.1
  have := h1.few
  omega
/-- A weight is one of 1 .. 100. -/
theorem weight_of {ss : List ByteArray} {ps : List Prp} (h : propB ss ps = true) : ∀ p ∈ ps, 1 ≤ p.t ∧ p.t ≤ 100 := by
  intro p hp
  unfold propB at h
  simp only [Bool.and_eq_true] at h
  obtain ⟨k, hk, rfl⟩ := List.getElem_of_mem hp
  have := allN_yes.1 h.2 k hk
  rw [okP_eq hk] at this
  simp only [Bool.and_eq_true] at this
  have := this.1.1.2
  unfold inB at this
  simp only [Bool.and_eq_true, decide_eq_true_eq] at this
  exact this
theorem sumT_range : ∀ {ps : List Prp}, (∀ p ∈ ps, 1 ≤ p.t ∧ p.t ≤ 100) → 0 ≤ sumT ps ∧ sumT ps ≤ 100 * ps.length
  | [], _ => by simp [sumT]
  | p :: ps, h => by
    have h1 := h p (by simp)
    have h2 := sumT_range (ps := ps) fun q hq => h q (by simp [hq])
    simp only [sumT, List.length_cons]
    push_cast
    omega
theorem stepH_no {ps : List Prp} {b : List Int × Int} {s : Nat} (h : noneB (pickL ps s ps.length) (pickL ps s ps.length).length = false) : stepH ps b s = b := by unfold stepH; rw [h]; rfl
theorem stepH_less {ps : List Prp} {b : List Int × Int} {s : Nat} (h : beats (idsL (pickL ps s ps.length)) b.1 (sumT (pickL ps s ps.length)) b.2 = false) : stepH ps b s = b := by unfold stepH; rw [h, Bool.and_false]; rfl
theorem stepH_yes {ps : List Prp} {b : List Int × Int} {s : Nat} (h : noneB (pickL ps s ps.length) (pickL ps s ps.length).length = true) (h2 : beats (idsL (pickL ps s ps.length)) b.1 (sumT (pickL ps s ps.length)) b.2 = true) : stepH ps b s = (idsL (pickL ps s ps.length), sumT (pickL ps s ps.length)) := by unfold stepH; rw [h, h2]; rfl
theorem heavK_len (ps : List Prp) : ∀ s, (heavK ps s).1.length ≤ ps.length
  | 0 => by simp [heavK]
  | s + 1 => by
    have := heavK_len ps s
    rw [heavK]
    unfold stepH
    split
    · rw [idsL_len]; exact pick_len _ _ _
    · exact this
theorem heavK_sum {ps : List Prp} (hw : ∀ p ∈ ps, 1 ≤ p.t ∧ p.t ≤ 100) (h8 : ps.length ≤ 8) : ∀ s, 0 ≤ (heavK ps s).2 ∧ (heavK ps s).2 ≤ 800
  | 0 => by simp [heavK]
  | s + 1 => by
    have := heavK_sum hw h8 s
    rw [heavK]
    unfold stepH
    split
    · have h1 := sumT_range (ps := pickL ps s ps.length) fun q hq => hw q (pick_mem (Nat.le_refl _) hq)
      have h2 := pick_len ps s ps.length
      exact ⟨h1.1, by omega⟩
    · exact this
end Go.Proofs.Ytgchbimjgdoifaa
