/- More contracts of chapter 11 (votes): sums of tallies, shares, whether the chair matters, the strictest need; the copies and comparisons of the laws. Conditions: none but the ranges named. -/
import Derived.Test.YtajfbiihlfccnaaDoorVt2
namespace Go.Proofs.YtajfbiihlfccnaaDoor.Vt
open Go.RowKit
set_option linter.unusedVariables false

theorem eqTally_same (y n a : Int) (w : World) : Calls Tryd.prog 9 #[.agg #[.int .i64 y, .int .i64 n, .int .i64 a], .agg #[.int .i64 y, .int .i64 n, .int .i64 a]] w fun e w' => e = .returned (.bool true) ∧ Below w.heap.size w w' := by
  go_enter Tryd.func9, Tryd.ntmps9
  go_wp2
  go_returns
  exact ⟨rfl, by go_grown⟩

def addS (y n a y' n' a' : Int) : Bool := vldT y n a && vldT y' n' a' && vldT (y + y') (n + n') (a + a')
def addV (y n a y' n' a' : Int) : Value :=
  if addS y n a y' n' a' then .agg #[.int .i64 (y + y'), .int .i64 (n + n'), .int .i64 (a + a')] else .agg #[.int .i64 0, .int .i64 0, .int .i64 0]
def addR (y n a y' n' a' : Int) : Value := .tuple #[addV y n a y' n' a', .bool (addS y n a y' n' a')]
theorem AddTallies_any (y n a y' n' a' : Int) (w : World) : Calls Tryd.prog 19 #[.agg #[.int .i64 y, .int .i64 n, .int .i64 a], .agg #[.int .i64 y', .int .i64 n', .int .i64 a']] w fun e w' => e = .returned (addR y n a y' n' a') ∧ Below w.heap.size w w' := by
  rcases Bool.eq_false_or_eq_true (vldT y n a) with h1 | h1
  · rcases Bool.eq_false_or_eq_true (vldT y' n' a') with h2 | h2
    · obtain ⟨_, _, _, _, _, _⟩ := vldT_iff.1 h1
      obtain ⟨_, _, _, _, _, _⟩ := vldT_iff.1 h2
      rcases Bool.eq_false_or_eq_true (vldT (y + y') (n + n') (a + a')) with h3 | h3
      all_goals
        go_enter Tryd.func19, Tryd.ntmps19
        go_wp2_with (go_at_call 46; refine (isValidTally_any _ _ _ _).mono ?_; rintro e w' ⟨rfl, rfl⟩)
        (go_returns; exact ⟨ret_val (by simp [addR, addV, addS, *]), by go_grown⟩)
    · go_enter Tryd.func19, Tryd.ntmps19
      go_wp2_with (go_at_call 46; refine (isValidTally_any _ _ _ _).mono ?_; rintro e w' ⟨rfl, rfl⟩)
      all_goals (go_returns; exact ⟨ret_val (by simp [addR, addV, addS, *]), by go_grown⟩)
  · go_enter Tryd.func19, Tryd.ntmps19
    go_wp2_with (go_at_call 46; refine (isValidTally_any _ _ _ _).mono ?_; rintro e w' ⟨rfl, rfl⟩)
    all_goals (go_returns; exact ⟨ret_val (by simp [addR, addV, addS, *]), by go_grown⟩)
theorem sAddTallies_any (y n a y' n' a' : Int) (w : World) : Calls Tryd.prog 20 #[.agg #[.int .i64 y, .int .i64 n, .int .i64 a], .agg #[.int .i64 y', .int .i64 n', .int .i64 a']] w fun e w' => e = .returned (addR y n a y' n' a') ∧ Below w.heap.size w w' := by
  rcases Bool.eq_false_or_eq_true (vldT y n a) with h1 | h1
  · rcases Bool.eq_false_or_eq_true (vldT y' n' a') with h2 | h2
    · obtain ⟨_, _, _, _, _, _⟩ := vldT_iff.1 h1
      obtain ⟨_, _, _, _, _, _⟩ := vldT_iff.1 h2
      rcases Bool.eq_false_or_eq_true (vldT (y + y') (n + n') (a + a')) with h3 | h3
      all_goals
        go_enter Tryd.func20, Tryd.ntmps20
        go_wp2_with (go_at_call 42; refine (l11Good_any _ _ _ _).mono ?_; rintro e w' ⟨rfl, rfl⟩)
        (go_returns; exact ⟨ret_val (by simp [addR, addV, addS, *]), by go_grown⟩)
    · go_enter Tryd.func20, Tryd.ntmps20
      go_wp2_with (go_at_call 42; refine (l11Good_any _ _ _ _).mono ?_; rintro e w' ⟨rfl, rfl⟩)
      all_goals (go_returns; exact ⟨ret_val (by simp [addR, addV, addS, *]), by go_grown⟩)
  · go_enter Tryd.func20, Tryd.ntmps20
    go_wp2_with (go_at_call 42; refine (l11Good_any _ _ _ _).mono ?_; rintro e w' ⟨rfl, rfl⟩)
    all_goals (go_returns; exact ⟨ret_val (by simp [addR, addV, addS, *]), by go_grown⟩)

/-! ### The greatest common divisor -/
theorem gcd_round (x y : Nat) (hy : 0 < y) : Nat.gcd y (x % y) = Nat.gcd x y := by
  rw [Nat.gcd_comm y, ← Nat.gcd_rec, Nat.gcd_comm]
theorem gcd_zero (x : Nat) : Nat.gcd x 0 = x := Nat.gcd_zero_right x
set_option maxHeartbeats 400000 in
theorem l11Common_any (x y : Nat) (w : World) (hx : x ≤ 100000) (_hy : y ≤ 100000) : Calls Tryd.prog 53 #[.int .i64 x, .int .i64 y] w fun e w' => e = .returned (.int .i64 (Nat.gcd x y)) ∧ w = w' := by
  go_enter Tryd.func53, Tryd.ntmps53
  go_wp2
  go_loop [0, 1] (fun u v => ∃ a b : Nat, a ≤ 100000 ∧ b ≤ 100000 ∧ u = .int .i64 a ∧ v = .int .i64 b ∧ Hid (Nat.gcd x y = Nat.gcd a b)) (fun _ v => (intOf v).toNat)
  case atStart => exact ⟨x, y, hx, _hy, rfl, rfl, rfl⟩
  case round =>
    obtain ⟨a, b, ha, hb, rfl, rfl, hg⟩ := hrel
    by_cases hlt : 0 < b
    · have HG := Lib.hid (gcd_round a b hlt)
      have hm := Nat.mod_lt a hlt
      go_wp2
      go_round
      case rel => exact ⟨b, a % b, hb, by omega, rfl, by go_num, hg.out.trans HG.out.symm⟩
      case measure => simp [intOf]; omega
    · obtain rfl : b = 0 := by omega
      go_wp2
      go_ret
      exact ⟨ret_int (by rw [hg.out, gcd_zero]), rfl⟩
end Go.Proofs.YtajfbiihlfccnaaDoor.Vt
