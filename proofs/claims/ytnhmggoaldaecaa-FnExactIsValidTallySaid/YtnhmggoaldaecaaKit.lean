/- Small words on worlds, shared by all walks of this seat: what a call leaves as it was, and the forms that the walk's region tactic asks. No program is named here. Conditions: none. -/
import Derived.Handy
import Derived.Lib.Hide
import Derived.Deep.Draws
import Derived.Deep.QuietTactic
import Derived.BigQuiet
import Derived.Deep.RegionHeld3
import Derived.Deep.DeepCutAuto
namespace Go.Proofs.Ytnhmggoaldaecaa
open Go.RowKit
set_option linter.unusedVariables false

theorem ret_bool {a b : Bool} (h : a = b) : Ending.returned (.bool a) = .returned (.bool b) := by rw [h]
theorem ret_int {k : IntKind} {a b : Int} (h : a = b) : Ending.returned (.int k a) = .returned (.int k b) := by rw [h]
theorem ret_val {a b : Value} (h : a = b) : Ending.returned a = .returned b := by rw [h]
theorem bcell {W w1 : World} (hb : Below W.heap.size W w1) : (∀ b o, b < W.heap.size → w1.cell? ⟨b, o, none⟩ = W.cell? ⟨b, o, none⟩) ∧ (∀ b o, b < W.heap.size → w1.frozen? ⟨b, o, none⟩ = W.frozen? ⟨b, o, none⟩) :=
  ⟨fun b o h => hb.cell (p := ⟨b, o, none⟩) h, fun b o h => hb.frozen (p := ⟨b, o, none⟩) h⟩
theorem after {w W w1 : World} (h : Below w.heap.size w W) (hb : Below W.heap.size W w1) : Below w.heap.size w w1 := h.trans (hb.mono h.size)
theorem below_drewN {B : Nat} {a w : World} (h : Below B a w) (n : Nat) : Below B a (w.drewN n) := ⟨h.os, h.tape, h.output, h.size, h.block⟩
section
variable {B : Nat} {W0 W w1 : World}
theorem after1 (h : Below B W0 W) (hB : B ≤ W0.heap.size) (hb : Below W.heap.size W w1) : Below B W0 w1 := h.trans (hb.mono (Nat.le_trans hB h.size))
theorem bcellB (hb : Below B W w1) : (∀ b o, b < B → w1.cell? ⟨b, o, none⟩ = W.cell? ⟨b, o, none⟩) ∧ (∀ b o, b < B → w1.frozen? ⟨b, o, none⟩ = W.frozen? ⟨b, o, none⟩) :=
  ⟨fun b o h => hb.cell (p := ⟨b, o, none⟩) h, fun b o h => hb.frozen (p := ⟨b, o, none⟩) h⟩
/-! The condition of a region: below B all is as it was in W. -/
theorem mkS (hb : Below B W w1) : Below B W w1 ∧ (∀ b o, b < B → w1.cell? ⟨b, o, none⟩ = W.cell? ⟨b, o, none⟩) := ⟨hb, (bcellB hb).1⟩
theorem drewS (hb : Below B W w1 ∧ (∀ b o, b < B → w1.cell? ⟨b, o, none⟩ = W.cell? ⟨b, o, none⟩)) : Below B W w1.drew ∧ (∀ b o, b < B → w1.drew.cell? ⟨b, o, none⟩ = W.cell? ⟨b, o, none⟩) := mkS hb.1.drew
theorem allocS {o : Obj} (hb : Below B W w1 ∧ (∀ b o, b < B → w1.cell? ⟨b, o, none⟩ = W.cell? ⟨b, o, none⟩)) (hB : B ≤ W.heap.size) : Below B W (w1.alloc o) ∧ (∀ b o', b < B → (w1.alloc o).cell? ⟨b, o', none⟩ = W.cell? ⟨b, o', none⟩) := mkS (hb.1.alloc (Nat.le_trans hB hb.1.size) _)
theorem setS {p : Addr} {u : Value} (hb : Below B W w1 ∧ (∀ b o, b < B → w1.cell? ⟨b, o, none⟩ = W.cell? ⟨b, o, none⟩)) (hB : B ≤ p.block) : Below B W (w1.setCell p u) ∧ (∀ b o', b < B → (w1.setCell p u).cell? ⟨b, o', none⟩ = W.cell? ⟨b, o', none⟩) := mkS (hb.1.setCell hB _)
theorem callS (hS : Below B W0 W ∧ (∀ b o, b < B → W.cell? ⟨b, o, none⟩ = W0.cell? ⟨b, o, none⟩)) (hB : B ≤ W0.heap.size) (hb : Below W.heap.size W w1) : Below B W0 w1 ∧ B ≤ w1.heap.size :=
  have h := after1 hS.1 hB hb
  ⟨h, Nat.le_trans hB h.size⟩
end
/-! What has been since a world: for a block that a region makes between its calls. -/
def Since (X W : World) : Prop := Below X.heap.size X W
theorem Since.mk {X W : World} (h : Below X.heap.size X W) : Since X W := h
theorem Since.step {X W w1 : World} (h : Since X W) (hb : Below W.heap.size W w1) : Since X w1 := Below.trans h (hb.mono (Below.size h))
theorem Since.below {X W : World} (h : Since X W) : Below X.heap.size X W := h
theorem bcell3 {W w1 : World} (hb : Below W.heap.size W w1) : (∀ b o, b < W.heap.size → w1.cell? ⟨b, o, none⟩ = W.cell? ⟨b, o, none⟩) ∧ (∀ b o, b < W.heap.size → w1.frozen? ⟨b, o, none⟩ = W.frozen? ⟨b, o, none⟩) ∧ (∀ b, b < W.heap.size → b < w1.heap.size) :=
  ⟨fun b o h => hb.cell (p := ⟨b, o, none⟩) h, fun b o h => hb.frozen (p := ⟨b, o, none⟩) h, fun _ h => Nat.lt_of_lt_of_le h hb.size⟩
end Go.Proofs.Ytnhmggoaldaecaa
