/- Whether two amendments conflict, in the program and in the reference. Conditions: the ranges named. -/
import Derived.Test.YtnnphhhjkhoglaaGreatDoorFits
import Derived.Deep.Light
namespace Go.Proofs.YtnnphhhjkhoglaaGreatDoor
open Go.RowKit
set_option linter.unusedVariables false

def insB (a : Amd) : Bool := decide (0 < (a.ws.length : Int))
def aroundB (b : Amd) (x : Int) : Bool := decide (b.p < x) && decide (x < b.p + b.n)
/-- Two amendments conflict. -/
def conB (a b : Amd) : Bool := decide ((if a.p < b.p then b.p else a.p) < (if b.p + b.n < a.p + a.n then b.p + b.n else a.p + a.n)) || (insB a && aroundB b a.p || insB b && aroundB a b.p) || insB a && insB b && a.p == b.p
/-- The numbers of a valid amendment are small. -/
def Small (a : Amd) : Prop := 0 ≤ a.p ∧ a.p ≤ 20 ∧ 0 ≤ a.n ∧ a.n ≤ 5
theorem Small.of {a : Amd} (h : vldA a = true) : Small a := by
  obtain ⟨h1, h2, h3, h4, _⟩ := vldA_range h
  exact ⟨h1, h2, h3, h4⟩
theorem l1Least_any (x y : Int) (w : World) : Calls Tryz.prog 60 #[.int .i64 x, .int .i64 y] w fun e w' => e = .returned (.int .i64 (if y < x then y else x)) ∧ w' = w := by
  go_enter Tryz.func60, Tryz.ntmps60
  go_wp2
  all_goals (go_ret; exact ⟨ret_int (by first | rfl | omega), rfl⟩)
end Go.Proofs.YtnnphhhjkhoglaaGreatDoor
