/- What the walk of a law on draws carries. No program is named here. Conditions: none. -/
import Derived.Test.YtnnphhhjkhoglaaDoorDr0
namespace Go.Proofs.YtnnphhhjkhoglaaDoor
open Go.RowKit
set_option linter.unusedVariables false
/-! ### What the walk of a law on draws carries -/
structure Lst (w0 w : World) (A : Option Addr) (n : Nat) : Prop where
  on : Below w0.heap.size w0 w
  by0 : BytesC w0 A n
section
variable {w0 w w' : World} {A : Option Addr} {n q : Nat}
theorem Lst.sz (h : Lst w0 w A n) : w0.heap.size ≤ w.heap.size := h.on.size
theorem Lst.call (h : Lst w0 w A n) (hb : Below w.heap.size w w') : Lst w0 w' A n := ⟨h.on.trans (hb.mono h.sz), h.by0⟩
theorem Lst.bytes (h : Lst w0 w A n) : BytesC w A n := h.by0.block fun a _ hl => h.on.block _ hl
theorem below_puts_ {B : Nat} (h : Below B w0 w) (hq : B ≤ q) : ∀ (o : Nat) (vs : List Value), Below B w0 (w.setCells q o vs) := by
  intro o vs
  induction vs generalizing o w with
  | nil => exact h
  | cons v vs ih => exact ih (h.setCell (p := ⟨q, o, none⟩) hq v) (o + 1)
theorem Lst.puts (h : Lst w0 w A n) (hq : w0.heap.size ≤ q) (o : Nat) (vs : List Value) : Lst w0 (w.setCells q o vs) A n := ⟨below_puts_ h.on hq o vs, h.by0⟩
end
end Go.Proofs.YtnnphhhjkhoglaaDoor
