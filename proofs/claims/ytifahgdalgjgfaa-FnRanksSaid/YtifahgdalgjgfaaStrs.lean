/- Slices of strings: the copies, comparisons, sizes and marks of the laws. Conditions: the ranges named. -/
import Derived.Test.YtifahgdalgjgfaaInts
namespace Go.Proofs.Ytifahgdalgjgfaa
open Go.RowKit
set_option linter.unusedVariables false

/-- Strings as elements. -/
def StrK : Kd ByteArray := ⟨1, fun s => [.string s], fun _ => rfl, fun s => s.size ≤ maxLen⟩
theorem strK_row (xs : List ByteArray) : StrK.row xs = xs.map Value.string := by
  induction xs with
  | nil => rfl
  | cons x xs ih => show [Value.string x] ++ StrK.row xs = _; rw [ih]; rfl
theorem str_at {w : World} {A : Option Addr} {xs : List ByteArray} (h : Cells w A (StrK.row xs)) {i : Nat} (hi : i < xs.length) : ∃ ad, A = some ad ∧ w.cell? (ad.add i) = some (.string xs[i]) :=
  h i _ (by rw [strK_row, List.getElem?_map, List.getElem?_eq_getElem hi]; rfl)
theorem infoStr : (Try.prog.info? 9).map (fun i => (i.zero, i.size, i.bytes)) = some (some (.string ByteArray.empty), 1, 16) := by kernel_rfl
def szAll : List ByteArray → Nat
  | [] => 0
  | s :: r => s.size + szAll r
theorem szAll_snoc (l : List ByteArray) (s : ByteArray) : szAll (l ++ [s]) = szAll l + s.size := by
  induction l with
  | nil => simp [szAll]
  | cons x l ih => simp [szAll, ih]; omega
theorem szAll_take_le (l : List ByteArray) (k : Nat) : szAll (l.take k) ≤ szAll l := by
  induction l generalizing k with
  | nil => simp [szAll]
  | cons x l ih =>
    cases k with
    | zero => simp [szAll]
    | succ k => simp [szAll]; exact ih k
/-- What szStringS returns. -/
def szF (ss : List ByteArray) (left : Int) : Int := if left - (ss.length : Int) - (szAll ss : Int) < 0 then -1 else left - (ss.length : Int) - (szAll ss : Int)
theorem szF_ok {ss : List ByteArray} {left : Int} (h : 0 ≤ szF ss left) : (ss.length : Int) + szAll ss ≤ left ∧ szF ss left = left - ss.length - szAll ss := by
  unfold szF at h ⊢
  split at h
  · omega
  · rename_i h1; rw [if_neg h1]; omega
theorem szF_neg {ss : List ByteArray} {left : Int} (h : szF ss left < 0) : szF ss left = -1 := by
  unfold szF at h ⊢
  split at h
  · rename_i h1; rw [if_pos h1]
  · omega
theorem mkS2 {wr w1 : World} {p : Addr} {v : Value} (hc : wr.cell? p = some v) (hp : p.block < wr.heap.size) (hb : Below wr.heap.size wr w1) : Below wr.heap.size wr w1 ∧ (∀ b o, b < wr.heap.size → w1.cell? ⟨b, o, none⟩ = wr.cell? ⟨b, o, none⟩) ∧ w1.cell? p = some v :=
  ⟨hb, (bcellB hb).1, (hb.cell hp).trans hc⟩
theorem callS2 {wr W w1 : World} {X : Prop} (hS : Below wr.heap.size wr W ∧ X) (hb : Below W.heap.size W w1) : Below wr.heap.size wr w1 := after1 hS.1 (Nat.le_refl _) hb
end Go.Proofs.Ytifahgdalgjgfaa
