/- Small functions on numbers, of the program and of the reference. Conditions: none. -/
import Derived.Test.YtifahgdalgjgfaaProg
import Derived.Test.YtifahgdalgjgfaaCell
namespace Go.Proofs.Ytifahgdalgjgfaa
open Go.RowKit
set_option linter.unusedVariables false

def inB (x a b : Int) : Bool := decide (a ≤ x) && decide (x ≤ b)
theorem inB_iff {x a b : Int} : inB x a b = true ↔ a ≤ x ∧ x ≤ b := by unfold inB; simp
theorem inside_any (x a b : Int) (w : World) : Calls Try.prog 98 #[.int .i64 x, .int .i64 a, .int .i64 b] w fun e w' => e = .returned (.bool (inB x a b)) ∧ w = w' := by
  go_enter Try.func98, Try.ntmps98
  go_wp2
  all_goals (go_ret; exact ⟨ret_bool (by unfold inB; simp; try omega), rfl⟩)
theorem l1In_any (x a b : Int) (w : World) : Calls Try.prog 105 #[.int .i64 x, .int .i64 a, .int .i64 b] w fun e w' => e = .returned (.bool (inB x a b)) ∧ w = w' := by
  go_enter Try.func105, Try.ntmps105
  go_wp2
  all_goals (go_ret; exact ⟨ret_bool (by unfold inB; simp; try omega), rfl⟩)
/-- The number of a member. -/
def memB (x : Int) : Bool := inB x 1 99
theorem isMember_any (x : Int) (w : World) : Calls Try.prog 71 #[.int .i64 x] w fun e w' => e = .returned (.bool (memB x)) ∧ w = w' := by
  go_enter Try.func71, Try.ntmps71
  go_wp2_with (go_at_call 98; refine (inside_any _ _ _ _).mono ?_; rintro e w' ⟨rfl, rfl⟩)
  go_ret
  exact ⟨rfl, rfl⟩
theorem l7Member_any (x : Int) (w : World) : Calls Try.prog 73 #[.int .i64 x] w fun e w' => e = .returned (.bool (memB x)) ∧ w = w' := by
  go_enter Try.func73, Try.ntmps73
  go_wp2_with (go_at_call 105; refine (l1In_any _ _ _ _).mono ?_; rintro e w' ⟨rfl, rfl⟩)
  go_ret
  exact ⟨rfl, rfl⟩
theorem l1Least_any (x y : Int) (w : World) : Calls Try.prog 123 #[.int .i64 x, .int .i64 y] w fun e w' => e = .returned (.int .i64 (if x < y then x else y)) ∧ w = w' := by
  by_cases h : x < y
  · go_enter Try.func123, Try.ntmps123
    go_wp2
    go_ret
    exact ⟨rfl, rfl⟩
  · go_enter Try.func123, Try.ntmps123
    go_wp2
    go_ret
    exact ⟨rfl, rfl⟩
end Go.Proofs.Ytifahgdalgjgfaa
