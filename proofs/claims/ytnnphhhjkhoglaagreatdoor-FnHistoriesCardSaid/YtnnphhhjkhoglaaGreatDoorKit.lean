/- Small words on worlds, shared by all walks of this seat: what a call leaves as it was, and the forms that the walk's region tactic asks. No program is named here. Conditions: none. -/
import Derived.Handy
import Derived.Lib.Hide
import Derived.Deep.Draws
import Derived.Deep.QuietTactic
import Derived.BigQuiet
import Derived.Deep.RegionHeld3
import Derived.Deep.DeepCutAuto
namespace Go.Proofs.YtnnphhhjkhoglaaGreatDoor
open Go.RowKit
set_option linter.unusedVariables false

theorem ret_bool {a b : Bool} (h : a = b) : Ending.returned (.bool a) = .returned (.bool b) := by rw [h]
theorem ret_int {k : IntKind} {a b : Int} (h : a = b) : Ending.returned (.int k a) = .returned (.int k b) := by rw [h]
theorem ret_val {a b : Value} (h : a = b) : Ending.returned a = .returned b := by rw [h]
theorem bcell {W w1 : World} (hb : Below W.heap.size W w1) : (∀ b o, b < W.heap.size → w1.cell? ⟨b, o, none⟩ = W.cell? ⟨b, o, none⟩) ∧ (∀ b o, b < W.heap.size → w1.frozen? ⟨b, o, none⟩ = W.frozen? ⟨b, o, none⟩) :=
  ⟨fun b o h => hb.cell (p := ⟨b, o, none⟩) h, fun b o h => hb.frozen (p := ⟨b, o, none⟩) h⟩
theorem after {w W w1 : World} (h : Below w.heap.size w W) (hb : Below W.heap.size W w1) : Below w.heap.size w w1 := h.trans (hb.mono h.size)
theorem below_drewN {B : Nat} {a w : World} (h : Below B a w) (n : Nat) : Below B a (w.drewN n) := ⟨h.os, h.tape, h.output, h.size, h.block⟩
section
variable {B : Nat} {W0 W w1 : World}
theorem after1 (h : Below B W0 W) (hB : B ≤ W0.heap.size) (hb : Below W.heap.size W w1) : Below B W0 w1 := h.trans (hb.mono (Nat.le_trans hB h.size))
theorem bcellB (hb : Below B W w1) : (∀ b o, b < B → w1.cell? ⟨b, o, none⟩ = W.cell? ⟨b, o, none⟩) ∧ (∀ b o, b < B → w1.frozen? ⟨b, o, none⟩ = W.frozen? ⟨b, o, none⟩) :=
  ⟨fun b o h => hb.cell (p := ⟨b, o, none⟩) h, fun b o h => hb.frozen (p := ⟨b, o, none⟩) h⟩
/-! The condition of a region: below B all is as it was in W. -/
theorem mkS (hb : Below B W w1) : Below B W w1 ∧ (∀ b o, b < B → w1.cell? ⟨b, o, none⟩ = W.cell? ⟨b, o, none⟩) := ⟨hb, (bcellB hb).1⟩
theorem S1 (hb : Below B W w1 ∧ (∀ b o, b < B → w1.cell? ⟨b, o, none⟩ = W.cell? ⟨b, o, none⟩)) : Below B W w1 := hb.1
theorem drewS (hb : Below B W w1 ∧ (∀ b o, b < B → w1.cell? ⟨b, o, none⟩ = W.cell? ⟨b, o, none⟩)) : Below B W w1.drew ∧ (∀ b o, b < B → w1.drew.cell? ⟨b, o, none⟩ = W.cell? ⟨b, o, none⟩) := mkS hb.1.drew
theorem allocS {o : Obj} (hb : Below B W w1 ∧ (∀ b o, b < B → w1.cell? ⟨b, o, none⟩ = W.cell? ⟨b, o, none⟩)) (hB : B ≤ W.heap.size) : Below B W (w1.alloc o) ∧ (∀ b o', b < B → (w1.alloc o).cell? ⟨b, o', none⟩ = W.cell? ⟨b, o', none⟩) := mkS (hb.1.alloc (Nat.le_trans hB hb.1.size) _)
theorem setS {p : Addr} {u : Value} (hb : Below B W w1 ∧ (∀ b o, b < B → w1.cell? ⟨b, o, none⟩ = W.cell? ⟨b, o, none⟩)) (hB : B ≤ p.block) : Below B W (w1.setCell p u) ∧ (∀ b o', b < B → (w1.setCell p u).cell? ⟨b, o', none⟩ = W.cell? ⟨b, o', none⟩) := mkS (hb.1.setCell hB _)
theorem callS (hS : Below B W0 W ∧ (∀ b o, b < B → W.cell? ⟨b, o, none⟩ = W0.cell? ⟨b, o, none⟩)) (hB : B ≤ W0.heap.size) (hb : Below W.heap.size W w1) : Below B W0 w1 ∧ B ≤ w1.heap.size :=
  have h := after1 hS.1 hB hb
  ⟨h, Nat.le_trans hB h.size⟩
end
/-! Only one block, and what is new, has turned. -/
theorem grownBy_of_below {w w' : World} (h : Below w.heap.size w w') (row : Option Nat) : w.grownBy w' row := ⟨h.os, h.tape, h.output, h.size, fun i hi _ => h.block i hi⟩
theorem grownBy_trans {w w1 w2 : World} {row : Option Nat} (h : w.grownBy w1 row) (k : w1.grownBy w2 row) : w.grownBy w2 row :=
  ⟨k.os.trans h.os, k.tape.trans h.tape, k.output.trans h.output, Nat.le_trans h.size k.size, fun i hi hne => (k.block i (Nat.lt_of_lt_of_le hi h.size) hne).trans (h.block i hi hne)⟩
theorem grownBy_drewN {w w1 : World} {row : Option Nat} (h : w.grownBy w1 row) (n : Nat) : w.grownBy (w1.drewN n) row := ⟨h.os, h.tape, h.output, h.size, h.block⟩
theorem below_of_grownBy {B : Nat} {w w' : World} {row : Option Nat} (h : w.grownBy w' row) (hB : B ≤ w.heap.size) (hr : ∀ g, row = some g → B ≤ g) : Below B w w' := (Below.refl _ _).grown h hB hr
/-! What has been since a world: for a block that a region makes between its calls. -/
def Since (X W : World) : Prop := Below X.heap.size X W
theorem Since.mk {X W : World} (h : Below X.heap.size X W) : Since X W := h
theorem Since.step {X W w1 : World} (h : Since X W) (hb : Below W.heap.size W w1) : Since X w1 := Below.trans h (hb.mono (Below.size h))
theorem Since.below {X W : World} (h : Since X W) : Below X.heap.size X W := h
theorem bcell3 {W w1 : World} (hb : Below W.heap.size W w1) : (∀ b o, b < W.heap.size → w1.cell? ⟨b, o, none⟩ = W.cell? ⟨b, o, none⟩) ∧ (∀ b o, b < W.heap.size → w1.frozen? ⟨b, o, none⟩ = W.frozen? ⟨b, o, none⟩) ∧ (∀ b, b < W.heap.size → b < w1.heap.size) :=
  ⟨fun b o h => hb.cell (p := ⟨b, o, none⟩) h, fun b o h => hb.frozen (p := ⟨b, o, none⟩) h, fun _ h => Nat.lt_of_lt_of_le h hb.size⟩

/-! The first place at which p holds, from k on; -1 where there is none. -/
def findI {α : Type} (p : α → Bool) : Nat → List α → Int
  | _, [] => -1
  | k, x :: l => if p x then (k : Int) else findI p (k + 1) l
theorem findI_hit {α : Type} {p : α → Bool} {k i : Nat} {l : List α} (h : i < l.length) (hp : p l[i] = true) : findI p k (l.drop i) = k := by
  rw [List.drop_eq_getElem_cons h, findI, if_pos hp]
theorem findI_miss {α : Type} {p : α → Bool} {k i : Nat} {l : List α} (h : i < l.length) (hp : p l[i] = false) : findI p k (l.drop i) = findI p (k + 1) (l.drop (i + 1)) := by
  rw [List.drop_eq_getElem_cons h, findI, if_neg (by rw [hp]; simp)]
theorem findI_end {α : Type} {p : α → Bool} {k : Nat} {l : List α} : findI p k (l.drop l.length) = -1 := by
  rw [List.drop_length]; rfl
theorem findI_any {α : Type} (p : α → Bool) (l : List α) (k : Nat) : decide (0 ≤ findI p k l) = l.any p := by
  induction l generalizing k with
  | nil => rfl
  | cons x l ih =>
    rw [findI, List.any_cons]
    rcases Bool.eq_false_or_eq_true (p x) with h | h
    · rw [if_pos h, h]; simp
    · rw [if_neg (by rw [h]; simp), h, ih]; simp
theorem findI_range {α : Type} (p : α → Bool) (l : List α) (k : Nat) : -1 ≤ findI p k l ∧ findI p k l < k + l.length := by
  induction l generalizing k with
  | nil => simp [findI]; omega
  | cons x l ih =>
    rw [findI]
    split
    · simp; omega
    · have := ih (k + 1); simp; omega
end Go.Proofs.YtnnphhhjkhoglaaGreatDoor
