/- Small functions on numbers, of the program and of the reference. Conditions: none. -/
import Derived.Test.YtjjjahfmgooobaaDoorProg
import Derived.Test.YtjjjahfmgooobaaDoorCell
namespace Go.Proofs.YtjjjahfmgooobaaDoor
open Go.RowKit
set_option linter.unusedVariables false

def inB (x a b : Int) : Bool := decide (a ≤ x) && decide (x ≤ b)
theorem inB_iff {x a b : Int} : inB x a b = true ↔ a ≤ x ∧ x ≤ b := by unfold inB; simp
theorem inside_any (x a b : Int) (w : World) : Calls Tryd.prog 16 #[.int .i64 x, .int .i64 a, .int .i64 b] w fun e w' => e = .returned (.bool (inB x a b)) ∧ w = w' := by
  go_enter Tryd.func16, Tryd.ntmps16
  go_wp2
  all_goals (go_ret; exact ⟨ret_bool (by unfold inB; simp; try omega), rfl⟩)
theorem l1In_any (x a b : Int) (w : World) : Calls Tryd.prog 15 #[.int .i64 x, .int .i64 a, .int .i64 b] w fun e w' => e = .returned (.bool (inB x a b)) ∧ w = w' := by
  go_enter Tryd.func15, Tryd.ntmps15
  go_wp2
  all_goals (go_ret; exact ⟨ret_bool (by unfold inB; simp; try omega), rfl⟩)
/-- The number of a member. -/
def memB (x : Int) : Bool := inB x 1 99
end Go.Proofs.YtjjjahfmgooobaaDoor
