/- Strings as elements, beside the older words on slices of strings. Conditions: none. -/
import Derived.Test.YtnnphhhjkhoglaaDoorObj2
namespace Go.Proofs.YtnnphhhjkhoglaaDoor
open Go.RowKit
set_option linter.unusedVariables false
/-- Strings as elements. -/
def StrK : Kd ByteArray := ⟨1, fun s => [.string s], fun _ => rfl, fun s => s.size ≤ maxLen⟩
theorem strK_row (xs : List ByteArray) : StrK.row xs = xs.map Value.string := by
  induction xs with
  | nil => rfl
  | cons x xs ih => show [Value.string x] ++ StrK.row xs = _; rw [ih]; rfl
theorem str_at {w : World} {A : Option Addr} {xs : List ByteArray} (h : Cells w A (StrK.row xs)) {i : Nat} (hi : i < xs.length) : ∃ ad, A = some ad ∧ w.cell? (ad.add i) = some (.string xs[i]) :=
  h i _ (by rw [strK_row, List.getElem?_map, List.getElem?_eq_getElem hi]; rfl)
theorem row_strs (xs : List ByteArray) : StrK.row xs = strs xs := strK_row xs
end Go.Proofs.YtnnphhhjkhoglaaDoor
