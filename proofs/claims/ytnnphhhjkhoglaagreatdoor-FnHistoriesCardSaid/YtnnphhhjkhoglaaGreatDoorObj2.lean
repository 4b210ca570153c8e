/- The laws' helpers on slices of strings, in the words of objects. Conditions: the ranges named. -/
import Derived.Test.YtnnphhhjkhoglaaGreatDoorObj
import Derived.Test.YtnnphhhjkhoglaaGreatDoorStr2
namespace Go.Proofs.YtnnphhhjkhoglaaGreatDoor
open Go.RowKit
set_option linter.unusedVariables false

theorem mkLoop_size (f : Nat) : ∀ (k : Nat) (out : ByteArray), (mkLoop f k out).size ≤ out.size + f := by
  induction f with
  | zero => intro k out; simp [mkLoop]
  | succ f ih =>
    intro k out
    rw [mkLoop]
    split
    · omega
    · have := ih (k / 10) (digB k ++ out)
      rw [ByteArray.size_append, digB_size] at this
      omega
theorem markB_size (k : Nat) (hk : k ≤ 100000000) : (markB k).size ≤ maxLen := by
  unfold markB maxLen
  rw [ByteArray.size_append]
  have := mkLoop_size k k ByteArray.empty
  have h1 : (⟨#[109]⟩ : ByteArray).size = 1 := rfl
  have h2 : ByteArray.empty.size = 0 := rfl
  omega
theorem Fit.marks {k n : Nat} (hn : n ≤ 1048576) (hk : k ≤ 50000000) : Fit (marks k n) := by
  refine ⟨by rw [marks_len]; exact hn, fun s hs => ?_⟩
  obtain ⟨i, hi, rfl⟩ := List.getElem_of_mem hs
  rw [marks_len] at hi
  rw [marks_get k n i hi]
  exact markB_size _ (by omega)
section
variable {B B' lo hi : Nat} {w : World} {A A' : Option Addr} {c c' : Nat} {ss : List ByteArray}
end
end Go.Proofs.YtnnphhhjkhoglaaGreatDoor
