/- Slices of strings, read and written: the copies, comparisons, sizes, marks of the laws. Conditions: the ranges named. -/
import Derived.Test.YtnnphhhjkhoglaaGreatDoorProg
import Derived.Test.YtnnphhhjkhoglaaGreatDoorKit
import Derived.Test.YtnnphhhjkhoglaaGreatDoorCell
import Derived.WalkSpells
import Derived.Deep.AppendLies
namespace Go.Proofs.YtnnphhhjkhoglaaGreatDoor
open Go.RowKit
set_option linter.unusedVariables false

def strs (ss : List ByteArray) : List Value := ss.map Value.string
theorem strs_len (ss : List ByteArray) : (strs ss).length = ss.length := by simp [strs]
theorem strs_get {ss : List ByteArray} {k : Nat} (h : k < ss.length) : (strs ss)[k]? = some (.string ss[k]) := by simp [strs, h]

/-! ### Sizes -/
def szAll : List ByteArray → Nat
  | [] => 0
  | s :: r => s.size + szAll r
theorem szAll_snoc (l : List ByteArray) (s : ByteArray) : szAll (l ++ [s]) = szAll l + s.size := by
  induction l with
  | nil => simp [szAll]
  | cons x l ih => simp [szAll, ih]; omega
theorem szAll_take_le (l : List ByteArray) (k : Nat) : szAll (l.take k) ≤ szAll l := by
  induction l generalizing k with
  | nil => simp [szAll]
  | cons x l ih =>
    cases k with
    | zero => simp [szAll]
    | succ k => simp [szAll]; exact ih k
/-- What szStringS returns. -/
def szF (ss : List ByteArray) (left : Int) : Int := if left - (ss.length : Int) - (szAll ss : Int) < 0 then -1 else left - (ss.length : Int) - (szAll ss : Int)
theorem szF_ok {ss : List ByteArray} {left : Int} (h : 0 ≤ szF ss left) : (ss.length : Int) + szAll ss ≤ left ∧ szF ss left = left - ss.length - szAll ss := by
  unfold szF at h ⊢
  split at h
  · omega
  · rename_i h1; rw [if_neg h1]; omega
theorem szF_neg {ss : List ByteArray} {left : Int} (h : szF ss left < 0) : szF ss left = -1 := by
  unfold szF at h ⊢
  split at h
  · rename_i h1; rw [if_pos h1]
  · omega
end Go.Proofs.YtnnphhhjkhoglaaGreatDoor
