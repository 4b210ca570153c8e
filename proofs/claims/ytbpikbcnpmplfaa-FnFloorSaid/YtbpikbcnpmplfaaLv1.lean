/- A number taken out of a list in which no number stands twice. Conditions: none. -/
import Derived.Test.YtbpikbcnpmplfaaHas
namespace Go.Proofs.Ytbpikbcnpmplfaa
open Go.RowKit
set_option linter.unusedVariables false
def cutAt (k : Nat) (xs : List Int) : List Int := xs.take k ++ xs.drop (k + 1)
def rmL (m : Int) (xs : List Int) : List Int := xs.filter (fun y => !(y == m))
theorem rmL_cut {m : Int} {xs : List Int} {k : Nat} (hk : k < xs.length) (he : xs[k] = m) (hd : ∀ i (hi : i < xs.length), hasB xs[i] (xs.take i) = false) : rmL m xs = cutAt k xs := by
  have hsp : xs = xs.take k ++ (xs[k] :: xs.drop (k + 1)) := by
    rw [← List.drop_eq_getElem_cons hk, List.take_append_drop]
  have h1 : (xs.take k).filter (fun y => !(y == m)) = xs.take k := by
    rw [List.filter_eq_self]
    intro y hy
    have h2 := hd k hk
    rw [he] at h2
    unfold hasB at h2
    have h3 : ¬ m ∈ xs.take k := fun h => by rw [List.contains_iff_mem.2 h] at h2; cases h2
    have : y ≠ m := fun e => h3 (e ▸ hy)
    simp [this]
  have h2 : (xs.drop (k + 1)).filter (fun y => !(y == m)) = xs.drop (k + 1) := by
    rw [List.filter_eq_self]
    intro y hy
    obtain ⟨i, hi, rfl⟩ := List.getElem_of_mem hy
    rw [List.length_drop] at hi
    have h3 := hd (k + 1 + i) (by omega)
    unfold hasB at h3
    rw [List.getElem_drop]
    have h4 : xs[k + 1 + i] ≠ m := fun e => by
      have h5 : xs[k + 1 + i] ∈ xs.take (k + 1 + i) := by
        rw [e, List.mem_take_iff_getElem]
        exact ⟨k, by omega, he⟩
      rw [List.contains_iff_mem.2 h5] at h3
      cases h3
    simp [h4]
  unfold rmL cutAt
  conv => lhs; rw [hsp]
  rw [List.filter_append, List.filter_cons, h1, h2, he]
  simp
end Go.Proofs.Ytbpikbcnpmplfaa
