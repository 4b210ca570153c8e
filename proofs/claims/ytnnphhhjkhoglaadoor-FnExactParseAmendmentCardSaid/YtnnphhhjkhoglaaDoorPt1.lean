/- Tallies read from their texts, in two ways: the same. No program is named here. Conditions: the ranges named. -/
import Derived.Test.YtnnphhhjkhoglaaDoorPt0
namespace Go.Proofs.YtnnphhhjkhoglaaDoor
open Go.Lib
set_option linter.unusedVariables false
def txL (y n a : Nat) : List UInt8 := decDigits y ++ [32, 121, 101, 115, 44, 32] ++ decDigits n ++ [32, 110, 111] ++ (if 0 < a then [44, 32] ++ decDigits a ++ [32, 97, 98, 115, 116, 97, 105, 110] else [])
theorem no32 (n : Nat) : (32 : UInt8) ∉ decDigits n := fun h => by
  have := dec_mem h
  simp at this
theorem spl_tx0 (y n : Nat) : spl 32 (txL y n 0) = [decDigits y, [121, 101, 115, 44], decDigits n, [110, 111]] := by
  have e : txL y n 0 = decDigits y ++ 32 :: ([121, 101, 115, 44] ++ 32 :: (decDigits n ++ 32 :: [110, 111])) := by
    unfold txL
    rw [if_neg (by omega)]
    simp [List.append_assoc]
  unfold spl
  rw [e, spF_hit (no32 y), spF_hit (by decide), spF_hit (no32 n), spF_no (by decide)]
  rfl
theorem spl_tx1 (y n a : Nat) (h : 0 < a) : spl 32 (txL y n a) = [decDigits y, [121, 101, 115, 44], decDigits n, [110, 111, 44], decDigits a, [97, 98, 115, 116, 97, 105, 110]] := by
  have e : txL y n a = decDigits y ++ 32 :: ([121, 101, 115, 44] ++ 32 :: (decDigits n ++ 32 :: ([110, 111, 44] ++ 32 :: (decDigits a ++ 32 :: [97, 98, 115, 116, 97, 105, 110])))) := by
    unfold txL
    rw [if_pos h]
    simp [List.append_assoc]
  unfold spl
  rw [e, spF_hit (no32 y), spF_hit (by decide), spF_hit (no32 n), spF_hit (by decide), spF_hit (no32 a), spF_no (by decide)]
  rfl
theorem tx_len {y n a : Nat} (hy : y ≤ 1000) (hn : n ≤ 1000) (ha : a ≤ 1000) : (txL y n a).length ≤ 50 := by
  have h1 : (decDigits y).length ≤ 4 := dec_len (k := 3) (by omega)
  have h2 : (decDigits n).length ≤ 4 := dec_len (k := 3) (by omega)
  have h3 : (decDigits a).length ≤ 4 := dec_len (k := 3) (by omega)
  unfold txL
  split <;> simp <;> omega
def vl3 (y n a : Int) : Bool := (decide (0 ≤ y ∧ y ≤ 1000) && decide (0 ≤ n ∧ n ≤ 1000)) && decide (0 ≤ a ∧ a ≤ 1000)
theorem vl3_iff {y n a : Int} : vl3 y n a = true ↔ 0 ≤ y ∧ y ≤ 1000 ∧ 0 ≤ n ∧ n ≤ 1000 ∧ 0 ≤ a ∧ a ≤ 1000 := by
  unfold vl3
  simp only [Bool.and_eq_true, decide_eq_true_eq]
  omega
def finT (l : List UInt8) : Option Int → Option Int → Option Int → Option (Int × Int × Int)
  | some y, some n, some a => if vl3 y n a = true ∧ txL y.toNat n.toNat a.toNat = l then some (y, n, a) else none
  | _, _, _ => none
theorem fin_yes {y n a : Nat} (hy : y ≤ 1000) (hn : n ≤ 1000) (ha : a ≤ 1000) : finT (txL y n a) (some (y : Int)) (some (n : Int)) (some (a : Int)) = some ((y : Int), (n : Int), (a : Int)) := by
  show (if _ then _ else _) = _
  rw [if_pos ⟨vl3_iff.2 ⟨by omega, by omega, by omega, by omega, by omega, by omega⟩, rfl⟩]
theorem fin_no {l : List UInt8} (h : ¬ ∃ y n a : Nat, y ≤ 1000 ∧ n ≤ 1000 ∧ a ≤ 1000 ∧ txL y n a = l) (y n a : Option Int) : finT l y n a = none := by
  cases y with
  | none => rfl
  | some y =>
    cases n with
    | none => rfl
    | some n =>
      cases a with
      | none => rfl
      | some a =>
        show (if _ then _ else _) = _
        rw [if_neg]
        rintro ⟨h1, h2⟩
        obtain ⟨a1, a2, a3, a4, a5, a6⟩ := vl3_iff.1 h1
        exact h ⟨y.toNat, n.toNat, a.toNat, by omega, by omega, by omega, h2⟩
def wsI (l : List UInt8) : List (List UInt8) := if (spl 32 l).length = 4 then spl 32 l ++ [[48]] else spl 32 l
def ptI (l : List UInt8) : Option (Int × Int × Int) := if (wsI l).length < 5 then none else finT l (piV ((wsI l).getD 0 [])) (piV ((wsI l).getD 2 [])) (piV ((wsI l).getD 4 []))
def ptS (l : List UInt8) : Option (Int × Int × Int) := if 50 < l.length ∨ ((spl 32 l).length ≠ 4 ∧ (spl 32 l).length ≠ 6) then none else finT l (lrV ((spl 32 l).getD 0 [])) (lrV ((spl 32 l).getD 2 [])) (if (spl 32 l).length = 6 then lrV ((spl 32 l).getD 4 []) else some 0)
theorem pi_zero : piV [48] = some 0 := by
  have h := pi_dec (n := 0) (by omega)
  rw [decDigits, dif_pos (by omega)] at h
  exact h
theorem pt_yes {y n a : Nat} (hy : y ≤ 1000) (hn : n ≤ 1000) (ha : a ≤ 1000) : ptI (txL y n a) = some ((y : Int), (n : Int), (a : Int)) ∧ ptS (txL y n a) = some ((y : Int), (n : Int), (a : Int)) := by
  have hl := tx_len hy hn ha
  have hl2 : ¬ 50 < (txL y n a).length := by omega
  rcases Nat.eq_zero_or_pos a with h0 | h0
  · subst h0
    have hw : wsI (txL y n 0) = [decDigits y, [121, 101, 115, 44], decDigits n, [110, 111], [48]] := by
      unfold wsI
      rw [spl_tx0]
      rfl
    refine ⟨?_, ?_⟩
    · unfold ptI
      rw [hw, if_neg (by simp)]
      show finT _ (piV (decDigits y)) (piV (decDigits n)) (piV [48]) = _
      rw [pi_dec (by omega), pi_dec (by omega), pi_zero]
      exact fin_yes hy hn ha
    · unfold ptS
      rw [spl_tx0, if_neg (by simp; omega), if_neg (by simp)]
      show finT _ (lrV (decDigits y)) (lrV (decDigits n)) (some 0) = _
      rw [lr_dec (by omega), lr_dec (by omega)]
      exact fin_yes hy hn ha
  · have hw : wsI (txL y n a) = [decDigits y, [121, 101, 115, 44], decDigits n, [110, 111, 44], decDigits a, [97, 98, 115, 116, 97, 105, 110]] := by
      unfold wsI
      rw [spl_tx1 y n a h0]
      rfl
    refine ⟨?_, ?_⟩
    · unfold ptI
      rw [hw, if_neg (by simp)]
      show finT _ (piV (decDigits y)) (piV (decDigits n)) (piV (decDigits a)) = _
      rw [pi_dec (by omega), pi_dec (by omega), pi_dec (by omega)]
      exact fin_yes hy hn ha
    · unfold ptS
      rw [spl_tx1 y n a h0, if_neg (by simp; omega), if_pos (by simp)]
      show finT _ (lrV (decDigits y)) (lrV (decDigits n)) (lrV (decDigits a)) = _
      rw [lr_dec (by omega), lr_dec (by omega), lr_dec (by omega)]
      exact fin_yes hy hn ha
/-- Both ways of reading agree. -/
theorem pt_same (l : List UInt8) : ptI l = ptS l := by
  by_cases h : ∃ y n a : Nat, y ≤ 1000 ∧ n ≤ 1000 ∧ a ≤ 1000 ∧ txL y n a = l
  · obtain ⟨y, n, a, hy, hn, ha, rfl⟩ := h
    rw [(pt_yes hy hn ha).1, (pt_yes hy hn ha).2]
  · unfold ptI ptS
    rw [fin_no h, fin_no h]
    simp
/-- What is read has the text that was read. -/
theorem pt_text {l : List UInt8} {t : Int × Int × Int} (h : ptI l = some t) : vl3 t.1 t.2.1 t.2.2 = true ∧ txL t.1.toNat t.2.1.toNat t.2.2.toNat = l := by
  by_cases c : ∃ y n a : Nat, y ≤ 1000 ∧ n ≤ 1000 ∧ a ≤ 1000 ∧ txL y n a = l
  · obtain ⟨y, n, a, hy, hn, ha, rfl⟩ := c
    rw [(pt_yes hy hn ha).1] at h
    injection h with h
    subst h
    exact ⟨vl3_iff.2 (by show 0 ≤ (y : Int) ∧ (y : Int) ≤ 1000 ∧ 0 ≤ (n : Int) ∧ (n : Int) ≤ 1000 ∧ 0 ≤ (a : Int) ∧ (a : Int) ≤ 1000; omega), rfl⟩
  · unfold ptI at h
    rw [fin_no c] at h
    simp at h
end Go.Proofs.YtnnphhhjkhoglaaDoor
