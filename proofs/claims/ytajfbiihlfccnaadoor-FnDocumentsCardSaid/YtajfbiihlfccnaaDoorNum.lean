/- Small functions on numbers, of the program and of the reference. Conditions: none. -/
import Derived.Test.YtajfbiihlfccnaaDoorProg
import Derived.Test.YtajfbiihlfccnaaDoorCell
namespace Go.Proofs.YtajfbiihlfccnaaDoor
open Go.RowKit
set_option linter.unusedVariables false

def inB (x a b : Int) : Bool := decide (a ≤ x) && decide (x ≤ b)
theorem inB_iff {x a b : Int} : inB x a b = true ↔ a ≤ x ∧ x ≤ b := by unfold inB; simp
theorem inside_any (x a b : Int) (w : World) : Calls Tryd.prog 70 #[.int .i64 x, .int .i64 a, .int .i64 b] w fun e w' => e = .returned (.bool (inB x a b)) ∧ w = w' := by
  go_enter Tryd.func70, Tryd.ntmps70
  go_wp2
  all_goals (go_ret; exact ⟨ret_bool (by unfold inB; simp; try omega), rfl⟩)
theorem l1In_any (x a b : Int) (w : World) : Calls Tryd.prog 72 #[.int .i64 x, .int .i64 a, .int .i64 b] w fun e w' => e = .returned (.bool (inB x a b)) ∧ w = w' := by
  go_enter Tryd.func72, Tryd.ntmps72
  go_wp2
  all_goals (go_ret; exact ⟨ret_bool (by unfold inB; simp; try omega), rfl⟩)
/-- The number of a member. -/
def memB (x : Int) : Bool := inB x 1 99
theorem l1Least_any (x y : Int) (w : World) : Calls Tryd.prog 82 #[.int .i64 x, .int .i64 y] w fun e w' => e = .returned (.int .i64 (if x < y then x else y)) ∧ w = w' := by
  by_cases h : x < y
  · go_enter Tryd.func82, Tryd.ntmps82
    go_wp2
    go_ret
    exact ⟨rfl, rfl⟩
  · go_enter Tryd.func82, Tryd.ntmps82
    go_wp2
    go_ret
    exact ⟨rfl, rfl⟩
end Go.Proofs.YtajfbiihlfccnaaDoor
