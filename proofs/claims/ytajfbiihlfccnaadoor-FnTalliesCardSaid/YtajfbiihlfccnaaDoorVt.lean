/- The contracts of the functions of chapter 11 (votes) that work on numbers and tallies: what each call returns, as a plain function of its arguments; nothing that was in memory has turned. Conditions: none but the ranges that each theorem names. -/
import Derived.Test.YtajfbiihlfccnaaDoorProg
import Derived.Test.YtajfbiihlfccnaaDoorKit
namespace Go.Proofs.YtajfbiihlfccnaaDoor.Vt
open Go.RowKit
set_option linter.unusedVariables false

def inB (x a b : Int) : Bool := decide (a ≤ x) && decide (x ≤ b)
theorem inB_iff {x a b : Int} : inB x a b = true ↔ a ≤ x ∧ x ≤ b := by unfold inB; simp
theorem inside_any (x a b : Int) (w : World) : Calls Tryd.prog 70 #[.int .i64 x, .int .i64 a, .int .i64 b] w fun e w' => e = .returned (.bool (inB x a b)) ∧ w = w' := by
  go_enter Tryd.func70, Tryd.ntmps70
  go_wp2
  all_goals (go_ret; exact ⟨ret_bool (by unfold inB; simp; try omega), rfl⟩)
theorem l1In_any (x a b : Int) (w : World) : Calls Tryd.prog 72 #[.int .i64 x, .int .i64 a, .int .i64 b] w fun e w' => e = .returned (.bool (inB x a b)) ∧ w = w' := by
  go_enter Tryd.func72, Tryd.ntmps72
  go_wp2
  all_goals (go_ret; exact ⟨ret_bool (by unfold inB; simp; try omega), rfl⟩)
theorem areVotes_any (x : Int) (w : World) : Calls Tryd.prog 78 #[.int .i64 x] w fun e w' => e = .returned (.bool (inB x 0 1000)) ∧ w = w' := by
  go_enter Tryd.func78, Tryd.ntmps78
  go_wp2_with (go_at_call 70; refine (inside_any _ _ _ _).mono ?_; rintro e w' ⟨rfl, rfl⟩)
  go_ret
  exact ⟨rfl, rfl⟩
theorem l11Votes_any (x : Int) (w : World) : Calls Tryd.prog 74 #[.int .i64 x] w fun e w' => e = .returned (.bool (inB x 0 1000)) ∧ w = w' := by
  go_enter Tryd.func74, Tryd.ntmps74
  go_wp2_with (go_at_call 72; refine (l1In_any _ _ _ _).mono ?_; rintro e w' ⟨rfl, rfl⟩)
  go_ret
  exact ⟨rfl, rfl⟩
/-- A tally is valid. -/
def vldT (y n a : Int) : Bool := inB y 0 1000 && inB n 0 1000 && inB a 0 1000
theorem vldT_iff {y n a : Int} : vldT y n a = true ↔ 0 ≤ y ∧ y ≤ 1000 ∧ 0 ≤ n ∧ n ≤ 1000 ∧ 0 ≤ a ∧ a ≤ 1000 := by
  unfold vldT; simp [inB_iff, and_assoc]
theorem isValidTally_any (y n a : Int) (w : World) : Calls Tryd.prog 46 #[.agg #[.int .i64 y, .int .i64 n, .int .i64 a]] w fun e w' => e = .returned (.bool (vldT y n a)) ∧ w.alloc (.cells #[.int .i64 y, .int .i64 n, .int .i64 a] 23) = w' := by
  go_enter Tryd.func46, Tryd.ntmps46
  go_wp2_with (go_at_call 78; refine (areVotes_any _ _).mono ?_; rintro e w' ⟨rfl, rfl⟩)
  all_goals (go_ret; exact ⟨ret_bool (by unfold vldT; simp [*]), rfl⟩)
theorem l11Good_any (y n a : Int) (w : World) : Calls Tryd.prog 42 #[.agg #[.int .i64 y, .int .i64 n, .int .i64 a]] w fun e w' => e = .returned (.bool (vldT y n a)) ∧ w.alloc (.cells #[.int .i64 y, .int .i64 n, .int .i64 a] 23) = w' := by
  go_enter Tryd.func42, Tryd.ntmps42
  go_wp2_with (go_at_call 74; refine (l11Votes_any _ _).mono ?_; rintro e w' ⟨rfl, rfl⟩)
  all_goals (go_ret; exact ⟨ret_bool (by unfold vldT; simp [*]), rfl⟩)

/-- A motion with a need is adopted. -/
def adB (need yes no : Int) : Bool := if need = 1 then decide (no < yes) else if need = 2 then decide (0 < yes + no) && decide (2 * no ≤ yes) else decide (0 < yes) && no == 0
/-- What IsAdopted returns. -/
def adoptedR (k y n a : Int) : Value := if inB k 1 3 && vldT y n a then .tuple #[.bool (adB k y n), .bool true] else .tuple #[.bool false, .bool false]
end Go.Proofs.YtajfbiihlfccnaaDoor.Vt
