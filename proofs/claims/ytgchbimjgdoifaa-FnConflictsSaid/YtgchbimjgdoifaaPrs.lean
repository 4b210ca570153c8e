/- Slices of pairs of numbers: the comparisons and marks of the laws. Conditions: the ranges named. -/
import Derived.Test.YtgchbimjgdoifaaDk7
namespace Go.Proofs.Ytgchbimjgdoifaa
open Go.RowKit
set_option linter.unusedVariables false
set_option linter.unusedSimpArgs false
theorem pair_at {w : World} {A : Option Addr} {xs : List (Int × Int)} (h : Cells w A (PairK.row xs)) {i : Nat} (hi : i < xs.length) : ∃ ad, A = some ad ∧ w.cell? (ad.add (i * 2)) = some (.int .i64 xs[i].1) ∧ w.cell? ⟨(ad.add (i * 2)).block, (ad.add (i * 2)).off + 1, none⟩ = some (.int .i64 xs[i].2) := by
  obtain ⟨ad, e, hc⟩ := Rd.at_ h hi (by decide)
  exact ⟨ad, e, hc 0 _ rfl, by rw [← add_split (h := by omega)]; exact hc 1 _ rfl⟩
theorem two_of {j : Nat} (h : j ≤ 2) : j = 0 ∨ j = 1 ∨ j = 2 := by omega
end Go.Proofs.Ytgchbimjgdoifaa
