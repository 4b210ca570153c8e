/- Objects in memory, in the words in which the laws' walks carry them from call to call: a slice that is read, a slice that a call made (its blocks lie in a range of numbers), a boxed struct. Conditions: none. -/
import Derived.Test.YtnnphhhjkhoglaaGreatDoorStr
namespace Go.Proofs.YtnnphhhjkhoglaaGreatDoor
open Go.RowKit
set_option linter.unusedVariables false

/-- The words are not too many and not too long for a machine. -/
def Fit (ss : List ByteArray) : Prop := ss.length ≤ 1048576 ∧ ∀ s ∈ ss, s.size ≤ maxLen
/-- The same, of an argument of which nothing is known yet. -/
def Fit0 (ss : List ByteArray) : Prop := ss.length ≤ maxLen ∧ ∀ s ∈ ss, s.size ≤ maxLen
theorem Fit.weak {ss : List ByteArray} (h : Fit ss) : Fit0 ss := ⟨Nat.le_trans h.1 (by unfold maxLen; omega), h.2⟩
/-! ### A slice of strings -/
def RdS (B : Nat) (w : World) (A : Option Addr) (c : Nat) (ss : List ByteArray) : Prop := ss.length ≤ c ∧ CellsB B w A (strs ss) ∧ Fit ss
def OwS (lo hi : Nat) (w : World) (A : Option Addr) (c : Nat) (ss : List ByteArray) : Prop := w.ownsRow lo 9 1 (.slice A ss.length c) ss.length (strs ss) ∧ Under hi A ∧ Fit ss
section
variable {B B' lo hi lo' hi' : Nat} {w w' : World} {A : Option Addr} {c : Nat} {ss : List ByteArray}
theorem RdS.below (h : RdS B w A c ss) (hb : Below B' w w') (hB : B ≤ B') : RdS B w' A c ss := ⟨h.1, h.2.1.below hb hB, h.2.2⟩
theorem RdS.cells (h : RdS B w A c ss) : Cells w A (strs ss) := h.2.1.cells
theorem OwS.rd (h : OwS lo hi w A c ss) : RdS hi w A c ss := ⟨own_cap h.1, CellsB.own h.1 h.2.1, h.2.2⟩
theorem OwS.below (h : OwS lo hi w A c ss) (hb : Below B w w') (hB : hi ≤ B) : OwS lo hi w' A c ss := ⟨own_under h.1 h.2.1 hb hB, h.2⟩
theorem OwS.only (h : OwS lo hi w A c ss) (ho : Only lo' hi' w w') (hd : hi ≤ lo' ∨ hi' ≤ lo) : OwS lo hi w' A c ss := ⟨own_only h.1 h.2.1 ho hd, h.2⟩
theorem OwS.mk (h : w.ownsRow lo 9 1 (.slice A ss.length c) ss.length (strs ss)) (hf : Fit ss) : OwS lo w.heap.size w A c ss := ⟨h, Under.own h, hf⟩
end
/-- An argument of which the sizes are not known yet. -/
def RdS0 (B : Nat) (w : World) (A : Option Addr) (c : Nat) (ss : List ByteArray) : Prop := ss.length ≤ c ∧ CellsB B w A (strs ss) ∧ Fit0 ss
theorem RdS0.below {B B' : Nat} {w w' : World} {A : Option Addr} {c : Nat} {ss : List ByteArray} (h : RdS0 B w A c ss) (hb : Below B' w w') (hB : B ≤ B') : RdS0 B w' A c ss := ⟨h.1, h.2.1.below hb hB, h.2.2⟩
theorem RdS0.up {B : Nat} {w : World} {A : Option Addr} {c : Nat} {ss : List ByteArray} (h : RdS0 B w A c ss) (hf : Fit ss) : RdS B w A c ss := ⟨h.1, h.2.1, hf⟩
theorem fitS_of {ss : List ByteArray} {left : Int} (h : ¬ szF ss left < 0) (hl : left ≤ 1048576) (h0 : Fit0 ss) : Fit ss ∧ 0 ≤ szF ss left ∧ szF ss left ≤ 1048576 := by
  obtain ⟨h1, h2⟩ := szF_ok (Int.not_lt.1 h)
  exact ⟨⟨by omega, h0.2⟩, by omega, by omega⟩
/-! ### A boxed struct -/
/-! ### The laws' helpers, in these words -/
def ToS (w : World) (ss : List ByteArray) (e : Ending) (w' : World) : Prop := ∃ (A : Option Addr) (c : Nat), e = .returned (.slice A ss.length c) ∧ OwS w.heap.size w'.heap.size w' A c ss ∧ Below w.heap.size w w'
end Go.Proofs.YtnnphhhjkhoglaaGreatDoor
