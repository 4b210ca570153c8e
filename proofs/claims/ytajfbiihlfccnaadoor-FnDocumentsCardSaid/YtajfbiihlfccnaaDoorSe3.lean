/- The parts of a section, sections asked for, in the program and in the reference. Conditions: the ranges named. -/
import Derived.Test.YtajfbiihlfccnaaDoorSe2
import Derived.Deep.QuietTactic
namespace Go.Proofs.YtajfbiihlfccnaaDoor
open Go.RowKit
set_option linter.unusedVariables false
set_option linter.unusedSimpArgs false
/-- How many sections at the head of a list lie deeper. -/
def cntD (dv : Int) : List Sec → Nat
  | [] => 0
  | x :: t => if dv < x.d then cntD dv t + 1 else 0
theorem cntD_le (dv : Int) : ∀ l : List Sec, cntD dv l ≤ l.length
  | [] => Nat.le_refl _
  | x :: t => by
    rw [cntD]
    have := cntD_le dv t
    split <;> simp <;> omega
/-- How many sections are parts of section i. -/
def partN (xs : List Sec) (i : Nat) : Nat := cntD (dAt xs i) (xs.drop (i + 1))
theorem part_le {xs : List Sec} {i : Nat} (hi : i < xs.length) : i + partN xs i + 1 ≤ xs.length := by
  have := cntD_le (dAt xs i) (xs.drop (i + 1))
  rw [List.length_drop] at this
  unfold partN
  omega
theorem cntD_at {xs : List Sec} {dv : Int} {k : Nat} (hk : k < xs.length) : cntD dv (xs.drop k) = if dv < dAt xs k then cntD dv (xs.drop (k + 1)) + 1 else 0 := by
  rw [List.drop_eq_getElem_cons hk, cntD, dAt_at hk]
theorem cntD_end {xs : List Sec} {dv : Int} {k : Nat} (hk : k = xs.length) : cntD dv (xs.drop k) = 0 := by
  rw [List.drop_eq_nil_of_le (by omega)]; rfl
def askB (xs : List Sec) (i : Int) : Bool := docB xs && inB i 0 ((xs.length : Int) - 1)
theorem ask_at {xs : List Sec} {i : Int} (h : askB xs i = true) : docB xs = true ∧ xs.length ≤ 12 ∧ ∃ n : Nat, i = n ∧ n < xs.length := by
  unfold askB at h
  rw [Bool.and_eq_true] at h
  obtain ⟨h1, h2⟩ := inB_iff.1 h.2
  exact ⟨h.1, (doc_yes h.1).1, i.toNat, by omega, by omega⟩
end Go.Proofs.YtajfbiihlfccnaaDoor
