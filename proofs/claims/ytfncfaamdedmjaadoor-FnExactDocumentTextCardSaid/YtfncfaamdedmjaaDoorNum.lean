/- Small functions on numbers, of the program and of the reference. Conditions: none. -/
import Derived.Test.YtfncfaamdedmjaaDoorProg
import Derived.Test.YtfncfaamdedmjaaDoorCell
namespace Go.Proofs.YtfncfaamdedmjaaDoor
open Go.RowKit
set_option linter.unusedVariables false

def inB (x a b : Int) : Bool := decide (a ≤ x) && decide (x ≤ b)
theorem inB_iff {x a b : Int} : inB x a b = true ↔ a ≤ x ∧ x ≤ b := by unfold inB; simp
theorem inside_any (x a b : Int) (w : World) : Calls Tryd.prog 37 #[.int .i64 x, .int .i64 a, .int .i64 b] w fun e w' => e = .returned (.bool (inB x a b)) ∧ w = w' := by
  go_enter Tryd.func37, Tryd.ntmps37
  go_wp2
  all_goals (go_ret; exact ⟨ret_bool (by unfold inB; simp; try omega), rfl⟩)
theorem l1In_any (x a b : Int) (w : World) : Calls Tryd.prog 34 #[.int .i64 x, .int .i64 a, .int .i64 b] w fun e w' => e = .returned (.bool (inB x a b)) ∧ w = w' := by
  go_enter Tryd.func34, Tryd.ntmps34
  go_wp2
  all_goals (go_ret; exact ⟨ret_bool (by unfold inB; simp; try omega), rfl⟩)
/-- The number of a member. -/
def memB (x : Int) : Bool := inB x 1 99
theorem l1Least_any (x y : Int) (w : World) : Calls Tryd.prog 41 #[.int .i64 x, .int .i64 y] w fun e w' => e = .returned (.int .i64 (if x < y then x else y)) ∧ w = w' := by
  by_cases h : x < y
  · go_enter Tryd.func41, Tryd.ntmps41
    go_wp2
    go_ret
    exact ⟨rfl, rfl⟩
  · go_enter Tryd.func41, Tryd.ntmps41
    go_wp2
    go_ret
    exact ⟨rfl, rfl⟩
end Go.Proofs.YtfncfaamdedmjaaDoor
