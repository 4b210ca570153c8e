/- Slices of numbers: the copies, comparisons, sizes and marks of the laws. Conditions: the ranges named. -/
import Derived.Test.YtnnphhhjkhoglaaGreatDoorProg
import Derived.Test.YtnnphhhjkhoglaaGreatDoorCell
namespace Go.Proofs.YtnnphhhjkhoglaaGreatDoor
open Go.RowKit
set_option linter.unusedVariables false

/-- Numbers as elements. -/
def IntK : Kd Int := ⟨1, fun x => [.int .i64 x], fun _ => rfl, fun _ => True⟩
theorem intK_row (xs : List Int) : IntK.row xs = xs.map (Value.int .i64) := by
  induction xs with
  | nil => rfl
  | cons x xs ih => show [Value.int .i64 x] ++ IntK.row xs = _; rw [ih]; rfl
theorem int_at {w : World} {A : Option Addr} {xs : List Int} (h : Cells w A (IntK.row xs)) {i : Nat} (hi : i < xs.length) : ∃ ad, A = some ad ∧ w.cell? (ad.add i) = some (.int .i64 xs[i]) :=
  h i _ (by rw [intK_row, List.getElem?_map, List.getElem?_eq_getElem hi]; rfl)
theorem infoInt : (Tryz.prog.info? 3).map (fun i => (i.zero, i.size, i.bytes)) = some (some (.int .i64 0), 1, 8) := by kernel_rfl
theorem ints_part (xs : List Int) (k : Nat) : IntK.part [.int .i64 0] xs k = (xs.take k).map (Value.int .i64) ++ List.replicate (xs.length - k) (.int .i64 0) := by
  unfold Kd.part
  rw [intK_row]
  congr 1
  generalize xs.length - k = n
  induction n with
  | zero => rfl
  | succ n ih => rw [List.replicate_succ, List.replicate_succ, List.flatten_cons, ih]; rfl
theorem ints_set {xs : List Int} {k : Nat} (h : k < xs.length) : (IntK.part [.int .i64 0] xs k).set k (.int .i64 xs[k]) = IntK.part [.int .i64 0] xs (k + 1) := by
  have h1 := IntK.part_set (z := [.int .i64 0]) rfl h
  simpa [IntK, setL] using h1
/-- The marks of n numbers, from k on. -/
def marksI (k : Nat) : Nat → List Int
  | 0 => []
  | n + 1 => marksI k n ++ [((k + n : Nat) : Int)]
theorem marksI_len (k n : Nat) : (marksI k n).length = n := by
  induction n with
  | zero => rfl
  | succ n ih => simp [marksI, ih]
theorem marksI_get (k n i : Nat) (h : i < n) : (marksI k n)[i]'(by rw [marksI_len]; exact h) = ((k + i : Nat) : Int) := by
  induction n with
  | zero => omega
  | succ n ih =>
    simp only [marksI]
    rcases Nat.lt_or_ge i n with h1 | h1
    · rw [List.getElem_append_left (by rw [marksI_len]; exact h1)]; exact ih h1
    · obtain rfl : i = n := by omega
      rw [List.getElem_append_right (by rw [marksI_len]; omega)]
      simp
/-- The first j places bear marks, from k on. -/
def mixI (k j : Nat) (xs : List Int) : List Int := marksI k j ++ xs.drop j
theorem mixI_zero (k : Nat) (xs : List Int) : mixI k 0 xs = xs := by simp [mixI, marksI]
theorem mixI_len {k j : Nat} {xs : List Int} (h : j ≤ xs.length) : (mixI k j xs).length = xs.length := by unfold mixI; rw [List.length_append, marksI_len, List.length_drop]; omega
theorem mixI_set {k j : Nat} {xs : List Int} (h : j < xs.length) : (IntK.row (mixI k j xs)).set j (.int .i64 ((k : Int) + j)) = IntK.row (mixI k (j + 1) xs) := by
  rw [intK_row, intK_row, show (Value.int .i64 ((k : Int) + j)) = Value.int .i64 (((k + j : Nat) : Int)) by rw [Int.natCast_add], ← List.map_set]
  congr 1
  unfold mixI
  have hl := marksI_len k j
  rw [List.set_append_right _ _ (by omega), hl, Nat.sub_self, marksI, List.drop_eq_getElem_cons h, List.set_cons_zero]
  simp
theorem mixI_all {k n : Nat} {xs : List Int} (h : xs.length = n) : mixI k n xs = marksI k n := by
  unfold mixI; rw [List.drop_of_length_le (by omega), List.append_nil]
end Go.Proofs.YtnnphhhjkhoglaaGreatDoor
