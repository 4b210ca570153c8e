/- SingleChange, in the program and in the reference: the same amendment. Conditions: the ranges named. -/
import Derived.Test.YtnnphhhjkhoglaaGreatDoorInv3
import Derived.Test.YtnnphhhjkhoglaaGreatDoorMk
import Derived.Deep.DrawnRows
import Derived.Deep.CutBlock
namespace Go.Proofs.YtnnphhhjkhoglaaGreatDoor
open Go.RowKit
set_option linter.unusedVariables false
set_option linter.unusedSimpArgs false
attribute [local go_sem ↓] Go.wp_at_zero Go.wp_at_succ
/-- The first number from k on at which p is false. -/
def runUp (p : Nat → Bool) : Nat → Nat → Nat
  | 0, k => k
  | f + 1, k => if p k then runUp p f (k + 1) else k
theorem bmono_ {w W : World} {o : Obj} (h : Below (w.alloc o).heap.size (w.alloc o) W) : Below w.heap.size w W := ((Below.refl _ _).alloc (Nat.le_refl _) _).trans (h.mono (by simp))
theorem run_yes {p : Nat → Bool} {n k : Nat} (h : k ≤ n) (hp : p k = true) : runUp p (n + 1 - k) k = runUp p (n + 1 - (k + 1)) (k + 1) := by
  rw [show n + 1 - k = (n - k) + 1 by omega, runUp, hp, show n + 1 - (k + 1) = n - k by omega]
  rfl
theorem run_no {p : Nat → Bool} {n k : Nat} (h : k ≤ n) (hp : p k = false) : runUp p (n + 1 - k) k = k := by
  rw [show n + 1 - k = (n - k) + 1 by omega, runUp, hp]
  rfl
def p1 (ss ts : List ByteArray) (k : Nat) : Bool := decide (k < ss.length) && decide (k < ts.length) && decide (ss.getD k ByteArray.empty = ts.getD k ByteArray.empty)
def p2 (ss ts : List ByteArray) (i e : Nat) : Bool := decide (i + e < ss.length) && decide (i + e < ts.length) && decide (ss.getD (ss.length - 1 - e) ByteArray.empty = ts.getD (ts.length - 1 - e) ByteArray.empty)
def atOf (ss ts : List ByteArray) : Nat := runUp (p1 ss ts) (ss.length + 1) 0
def enOf (ss ts : List ByteArray) : Nat := runUp (p2 ss ts (atOf ss ts)) (ss.length + 1) 0
theorem p1_out {ss ts : List ByteArray} {k : Nat} (h : ¬ (k < ss.length ∧ k < ts.length)) : p1 ss ts k = false := by
  unfold p1
  by_cases h1 : k < ss.length
  · rw [decide_eq_false (show ¬ k < ts.length by omega)]; simp
  · rw [decide_eq_false h1]; rfl
theorem p1_in {ss ts : List ByteArray} {k : Nat} (h1 : k < ss.length) (h2 : k < ts.length) : p1 ss ts k = decide (ss[k] = ts[k]) := by
  unfold p1
  rw [decide_eq_true h1, decide_eq_true h2]
  simp [List.getD_eq_getElem?_getD, h1, h2]
theorem p2_out {ss ts : List ByteArray} {i e : Nat} (h : ¬ (i + e < ss.length ∧ i + e < ts.length)) : p2 ss ts i e = false := by
  unfold p2
  by_cases h1 : i + e < ss.length
  · rw [decide_eq_false (show ¬ i + e < ts.length by omega)]; simp
  · rw [decide_eq_false h1]; rfl
theorem p2_in {ss ts : List ByteArray} {i e : Nat} (h1 : i + e < ss.length) (h2 : i + e < ts.length) : p2 ss ts i e = decide (ss[ss.length - 1 - e]'(by omega) = ts[ts.length - 1 - e]'(by omega)) := by
  unfold p2
  rw [decide_eq_true h1, decide_eq_true h2]
  have h3 : ss.length - 1 - e < ss.length := by omega
  have h4 : ts.length - 1 - e < ts.length := by omega
  simp [List.getD_eq_getElem?_getD, h3, h4]
/-- The words of the other text between what both share. -/
def midW (ss ts : List ByteArray) : List ByteArray := (ts.drop (atOf ss ts)).take (ts.length - enOf ss ts - atOf ss ts)
def sgA (ss ts : List ByteArray) : Amd := ⟨kindI ((ss.length : Int) - enOf ss ts - atOf ss ts) (midW ss ts), atOf ss ts, (ss.length : Int) - enOf ss ts - atOf ss ts, midW ss ts⟩
def sgOk (ss ts : List ByteArray) : Bool := wordsB ss 0 20 && wordsB ts 0 20 && !decide (ss = ts) && vldA (sgA ss ts)
def sgR (ss ts : List ByteArray) : Amd := if sgOk ss ts then sgA ss ts else noA
theorem sgR_no {a b : List ByteArray} (h : sgOk a b = false) : sgR a b = noA := by unfold sgR; rw [h]; rfl
theorem sgR_yes {a b : List ByteArray} (h : sgOk a b = true) : sgR a b = sgA a b := by unfold sgR; rw [h]; rfl
end Go.Proofs.YtnnphhhjkhoglaaGreatDoor
