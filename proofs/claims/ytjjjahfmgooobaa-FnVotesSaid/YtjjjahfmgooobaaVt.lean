/- The contracts of the functions of chapter 11 (votes) that work on numbers and tallies: what each call returns, as a plain function of its arguments; nothing that was in memory has turned. Conditions: none but the ranges that each theorem names. -/
import Derived.Test.YtjjjahfmgooobaaProg
import Derived.Test.YtjjjahfmgooobaaKit
namespace Go.Proofs.Ytjjjahfmgooobaa.Vt
open Go.RowKit
set_option linter.unusedVariables false

def inB (x a b : Int) : Bool := decide (a ≤ x) && decide (x ≤ b)
theorem inB_iff {x a b : Int} : inB x a b = true ↔ a ≤ x ∧ x ≤ b := by unfold inB; simp
theorem inside_any (x a b : Int) (w : World) : Calls Try.prog 31 #[.int .i64 x, .int .i64 a, .int .i64 b] w fun e w' => e = .returned (.bool (inB x a b)) ∧ w = w' := by
  go_enter Try.func31, Try.ntmps31
  go_wp2
  all_goals (go_ret; exact ⟨ret_bool (by unfold inB; simp; try omega), rfl⟩)
theorem l1In_any (x a b : Int) (w : World) : Calls Try.prog 32 #[.int .i64 x, .int .i64 a, .int .i64 b] w fun e w' => e = .returned (.bool (inB x a b)) ∧ w = w' := by
  go_enter Try.func32, Try.ntmps32
  go_wp2
  all_goals (go_ret; exact ⟨ret_bool (by unfold inB; simp; try omega), rfl⟩)
theorem areVotes_any (x : Int) (w : World) : Calls Try.prog 22 #[.int .i64 x] w fun e w' => e = .returned (.bool (inB x 0 1000)) ∧ w = w' := by
  go_enter Try.func22, Try.ntmps22
  go_wp2_with (go_at_call 31; refine (inside_any _ _ _ _).mono ?_; rintro e w' ⟨rfl, rfl⟩)
  go_ret
  exact ⟨rfl, rfl⟩
theorem l11Votes_any (x : Int) (w : World) : Calls Try.prog 25 #[.int .i64 x] w fun e w' => e = .returned (.bool (inB x 0 1000)) ∧ w = w' := by
  go_enter Try.func25, Try.ntmps25
  go_wp2_with (go_at_call 32; refine (l1In_any _ _ _ _).mono ?_; rintro e w' ⟨rfl, rfl⟩)
  go_ret
  exact ⟨rfl, rfl⟩
theorem isNeed_any (x : Int) (w : World) : Calls Try.prog 21 #[.int .i64 x] w fun e w' => e = .returned (.bool (inB x 1 3)) ∧ w = w' := by
  go_enter Try.func21, Try.ntmps21
  go_wp2_with (go_at_call 31; refine (inside_any _ _ _ _).mono ?_; rintro e w' ⟨rfl, rfl⟩)
  go_ret
  exact ⟨rfl, rfl⟩
theorem l11Need_any (x : Int) (w : World) : Calls Try.prog 24 #[.int .i64 x] w fun e w' => e = .returned (.bool (inB x 1 3)) ∧ w = w' := by
  go_enter Try.func24, Try.ntmps24
  go_wp2_with (go_at_call 32; refine (l1In_any _ _ _ _).mono ?_; rintro e w' ⟨rfl, rfl⟩)
  go_ret
  exact ⟨rfl, rfl⟩

/-- A tally is valid. -/
def vldT (y n a : Int) : Bool := inB y 0 1000 && inB n 0 1000 && inB a 0 1000
theorem vldT_iff {y n a : Int} : vldT y n a = true ↔ 0 ≤ y ∧ y ≤ 1000 ∧ 0 ≤ n ∧ n ≤ 1000 ∧ 0 ≤ a ∧ a ≤ 1000 := by
  unfold vldT; simp [inB_iff, and_assoc]
theorem isValidTally_any (y n a : Int) (w : World) : Calls Try.prog 16 #[.agg #[.int .i64 y, .int .i64 n, .int .i64 a]] w fun e w' => e = .returned (.bool (vldT y n a)) ∧ w.alloc (.cells #[.int .i64 y, .int .i64 n, .int .i64 a] 31) = w' := by
  go_enter Try.func16, Try.ntmps16
  go_wp2_with (go_at_call 22; refine (areVotes_any _ _).mono ?_; rintro e w' ⟨rfl, rfl⟩)
  all_goals (go_ret; exact ⟨ret_bool (by unfold vldT; simp [*]), rfl⟩)
theorem l11Good_any (y n a : Int) (w : World) : Calls Try.prog 28 #[.agg #[.int .i64 y, .int .i64 n, .int .i64 a]] w fun e w' => e = .returned (.bool (vldT y n a)) ∧ w.alloc (.cells #[.int .i64 y, .int .i64 n, .int .i64 a] 31) = w' := by
  go_enter Try.func28, Try.ntmps28
  go_wp2_with (go_at_call 25; refine (l11Votes_any _ _).mono ?_; rintro e w' ⟨rfl, rfl⟩)
  all_goals (go_ret; exact ⟨ret_bool (by unfold vldT; simp [*]), rfl⟩)

/-- A motion with a need is adopted. -/
def adB (need yes no : Int) : Bool := if need = 1 then decide (no < yes) else if need = 2 then decide (0 < yes + no) && decide (2 * no ≤ yes) else decide (0 < yes) && no == 0
theorem isAdopted0_any (k y n : Int) (w : World) (hy : 0 ≤ y) (hy' : y ≤ 100000) (hn : 0 ≤ n) (hn' : n ≤ 100000) :
    Calls Try.prog 23 #[.int .i64 k, .int .i64 y, .int .i64 n] w fun e w' => e = .returned (.bool (adB k y n)) ∧ w = w' := by
  go_enter Try.func23, Try.ntmps23
  go_wp2
  all_goals (go_ret; exact ⟨ret_bool (by unfold adB; simp_all; try omega), rfl⟩)
theorem l11Enough_any (k y n : Int) (w : World) (hy : 0 ≤ y) (hy' : y ≤ 100000) (hn : 0 ≤ n) (hn' : n ≤ 100000) :
    Calls Try.prog 26 #[.int .i64 k, .int .i64 y, .int .i64 n] w fun e w' => e = .returned (.bool (adB k y n)) ∧ w = w' := by
  go_enter Try.func26, Try.ntmps26
  go_wp2
  all_goals (go_ret; exact ⟨ret_bool (by unfold adB; simp_all; try omega), rfl⟩)

theorem l11Adopted_any (k y n a : Int) (w : World) (hy : 0 ≤ y) (hy' : y ≤ 100000) (hn : 0 ≤ n) (hn' : n ≤ 100000) :
    Calls Try.prog 29 #[.int .i64 k, .agg #[.int .i64 y, .int .i64 n, .int .i64 a]] w fun e w' => e = .returned (.bool (adB k y n)) ∧ w.alloc (.cells #[.int .i64 y, .int .i64 n, .int .i64 a] 31) = w' := by
  go_enter Try.func29, Try.ntmps29
  go_wp2_with (go_at_call 26; refine (l11Enough_any _ _ _ _ hy hy' hn hn').mono ?_; rintro e w' ⟨rfl, rfl⟩)
  go_ret
  exact ⟨rfl, rfl⟩

/-- What IsAdopted returns. -/
def adoptedR (k y n a : Int) : Value := if inB k 1 3 && vldT y n a then .tuple #[.bool (adB k y n), .bool true] else .tuple #[.bool false, .bool false]
theorem IsAdopted_any (k y n a : Int) (w : World) : Calls Try.prog 8 #[.int .i64 k, .agg #[.int .i64 y, .int .i64 n, .int .i64 a]] w fun e w' => e = .returned (adoptedR k y n a) ∧ Below w.heap.size w w' := by
  rcases Bool.eq_false_or_eq_true (vldT y n a) with hv | hv
  · have hv2 := vldT_iff.1 hv
    go_enter Try.func8, Try.ntmps8
    go_wp2_with (first
      | (go_at_call 21; refine (isNeed_any _ _).mono ?_; rintro e w' ⟨rfl, rfl⟩)
      | (go_at_call 16; refine (isValidTally_any _ _ _ _).mono ?_; rintro e w' ⟨rfl, rfl⟩)
      | (go_at_call 23; refine (isAdopted0_any _ _ _ _ (by omega) (by omega) (by omega) (by omega)).mono ?_; rintro e w' ⟨rfl, rfl⟩))
    all_goals (go_ret2; exact ⟨ret_val (by unfold adoptedR; simp [*]), by go_grown⟩)
  · go_enter Try.func8, Try.ntmps8
    go_wp2_with (first
      | (go_at_call 21; refine (isNeed_any _ _).mono ?_; rintro e w' ⟨rfl, rfl⟩)
      | (go_at_call 16; refine (isValidTally_any _ _ _ _).mono ?_; rintro e w' ⟨rfl, rfl⟩))
    all_goals (go_ret2; exact ⟨ret_val (by unfold adoptedR; simp [*]), by go_grown⟩)
theorem sIsAdopted_any (k y n a : Int) (w : World) : Calls Try.prog 13 #[.int .i64 k, .agg #[.int .i64 y, .int .i64 n, .int .i64 a]] w fun e w' => e = .returned (adoptedR k y n a) ∧ Below w.heap.size w w' := by
  rcases Bool.eq_false_or_eq_true (vldT y n a) with hv | hv
  · have hv2 := vldT_iff.1 hv
    go_enter Try.func13, Try.ntmps13
    go_wp2_with (first
      | (go_at_call 24; refine (l11Need_any _ _).mono ?_; rintro e w' ⟨rfl, rfl⟩)
      | (go_at_call 28; refine (l11Good_any _ _ _ _).mono ?_; rintro e w' ⟨rfl, rfl⟩)
      | (go_at_call 29; refine (l11Adopted_any _ _ _ _ _ (by omega) (by omega) (by omega) (by omega)).mono ?_; rintro e w' ⟨rfl, rfl⟩))
    all_goals (go_ret2; exact ⟨ret_val (by unfold adoptedR; simp [*]), by go_grown⟩)
  · go_enter Try.func13, Try.ntmps13
    go_wp2_with (first
      | (go_at_call 24; refine (l11Need_any _ _).mono ?_; rintro e w' ⟨rfl, rfl⟩)
      | (go_at_call 28; refine (l11Good_any _ _ _ _).mono ?_; rintro e w' ⟨rfl, rfl⟩))
    all_goals (go_ret2; exact ⟨ret_val (by unfold adoptedR; simp [*]), by go_grown⟩)
end Go.Proofs.Ytjjjahfmgooobaa.Vt
