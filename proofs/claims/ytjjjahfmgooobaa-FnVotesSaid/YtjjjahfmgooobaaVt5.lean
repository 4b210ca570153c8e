/- Contracts of chapter 11 (votes): whether the chair matters, and the strictest need, of the program and of the reference. Conditions: none. -/
import Derived.Test.YtjjjahfmgooobaaVt
namespace Go.Proofs.Ytjjjahfmgooobaa.Vt
open Go.RowKit
set_option linter.unusedVariables false

def chairS (k y n a : Int) : Bool := inB k 1 3 && vldT y n a && !(y == 1000) && !(n == 1000)
def chairB (k y n : Int) : Bool := adB k (y + 1) n && !adB k y (n + 1)
def chairR (k y n a : Int) : Value := .tuple #[.bool (chairS k y n a && chairB k y n), .bool (chairS k y n a)]
def strict (y n : Int) : Int := if adB 3 y n then 3 else if adB 2 y n then 2 else if adB 1 y n then 1 else 0
def strictR (y n a : Int) : Value := .tuple #[.int .i64 (if vldT y n a then strict y n else 0), .bool (vldT y n a)]
set_option maxHeartbeats 400000 in
theorem ChairMatters_any (k y n a : Int) (w : World) : Calls Try.prog 17 #[.int .i64 k, .agg #[.int .i64 y, .int .i64 n, .int .i64 a]] w fun e w' => e = .returned (chairR k y n a) ∧ Below w.heap.size w w' := by
  rcases Bool.eq_false_or_eq_true (inB k 1 3) with h0 | h0
  · rcases Bool.eq_false_or_eq_true (vldT y n a) with h1 | h1
    · obtain ⟨_, _, _, _, _, _⟩ := vldT_iff.1 h1
      rcases Bool.eq_false_or_eq_true (y == 1000) with h2 | h2
      · go_enter Try.func17, Try.ntmps17
        go_wp2_with (first | (go_at_call 21; refine (isNeed_any _ _).mono ?_; rintro e w' ⟨rfl, rfl⟩) | (go_at_call 16; refine (isValidTally_any _ _ _ _).mono ?_; rintro e w' ⟨rfl, rfl⟩))
        go_returns
        exact ⟨ret_val (by simp [chairR, chairS, h0, h1, h2]), by go_grown⟩
      · rcases Bool.eq_false_or_eq_true (n == 1000) with h3 | h3
        · go_enter Try.func17, Try.ntmps17
          go_wp2_with (first | (go_at_call 21; refine (isNeed_any _ _).mono ?_; rintro e w' ⟨rfl, rfl⟩) | (go_at_call 16; refine (isValidTally_any _ _ _ _).mono ?_; rintro e w' ⟨rfl, rfl⟩))
          go_returns
          exact ⟨ret_val (by simp [chairR, chairS, h0, h1, h2, h3]), by go_grown⟩
        · have HS := Lib.hid (show chairS k y n a = true by simp only [chairS, h0, h1, h2, h3]; rfl)
          rcases Bool.eq_false_or_eq_true (adB k (y + 1) n) with h4 | h4
          all_goals
            go_enter Try.func17, Try.ntmps17
            go_wp2_with (first | (go_at_call 21; refine (isNeed_any _ _).mono ?_; rintro e w' ⟨rfl, rfl⟩) | (go_at_call 16; refine (isValidTally_any _ _ _ _).mono ?_; rintro e w' ⟨rfl, rfl⟩) | (go_at_call 23; refine (isAdopted0_any _ _ _ _ (by omega) (by omega) (by omega) (by omega)).mono ?_; rintro e w' ⟨rfl, rfl⟩))
            go_returns
            exact ⟨ret_val (by simp only [chairR, chairB, HS.out, h4, Bool.true_and, Bool.false_and] ; rfl), by go_grown⟩
    · go_enter Try.func17, Try.ntmps17
      go_wp2_with (first | (go_at_call 21; refine (isNeed_any _ _).mono ?_; rintro e w' ⟨rfl, rfl⟩) | (go_at_call 16; refine (isValidTally_any _ _ _ _).mono ?_; rintro e w' ⟨rfl, rfl⟩))
      go_returns
      exact ⟨ret_val (by simp [chairR, chairS, h0, h1]), by go_grown⟩
  · go_enter Try.func17, Try.ntmps17
    go_wp2_with (first | (go_at_call 21; refine (isNeed_any _ _).mono ?_; rintro e w' ⟨rfl, rfl⟩) | (go_at_call 16; refine (isValidTally_any _ _ _ _).mono ?_; rintro e w' ⟨rfl, rfl⟩))
    go_returns
    exact ⟨ret_val (by simp [chairR, chairS, h0]), by go_grown⟩
set_option maxHeartbeats 400000 in
theorem sChairMatters_any (k y n a : Int) (w : World) : Calls Try.prog 18 #[.int .i64 k, .agg #[.int .i64 y, .int .i64 n, .int .i64 a]] w fun e w' => e = .returned (chairR k y n a) ∧ Below w.heap.size w w' := by
  rcases Bool.eq_false_or_eq_true (inB k 1 3) with h0 | h0
  · rcases Bool.eq_false_or_eq_true (vldT y n a) with h1 | h1
    · obtain ⟨_, _, _, _, _, _⟩ := vldT_iff.1 h1
      rcases Bool.eq_false_or_eq_true (y == 1000) with h2 | h2
      · go_enter Try.func18, Try.ntmps18
        go_wp2_with (first | (go_at_call 24; refine (l11Need_any _ _).mono ?_; rintro e w' ⟨rfl, rfl⟩) | (go_at_call 28; refine (l11Good_any _ _ _ _).mono ?_; rintro e w' ⟨rfl, rfl⟩))
        go_returns
        exact ⟨ret_val (by simp [chairR, chairS, h0, h1, h2]), by go_grown⟩
      · rcases Bool.eq_false_or_eq_true (n == 1000) with h3 | h3
        · go_enter Try.func18, Try.ntmps18
          go_wp2_with (first | (go_at_call 24; refine (l11Need_any _ _).mono ?_; rintro e w' ⟨rfl, rfl⟩) | (go_at_call 28; refine (l11Good_any _ _ _ _).mono ?_; rintro e w' ⟨rfl, rfl⟩))
          go_returns
          exact ⟨ret_val (by simp [chairR, chairS, h0, h1, h2, h3]), by go_grown⟩
        · have HS := Lib.hid (show chairS k y n a = true by simp only [chairS, h0, h1, h2, h3]; rfl)
          rcases Bool.eq_false_or_eq_true (adB k (y + 1) n) with h4 | h4
          all_goals
            go_enter Try.func18, Try.ntmps18
            go_wp2_with (first | (go_at_call 24; refine (l11Need_any _ _).mono ?_; rintro e w' ⟨rfl, rfl⟩) | (go_at_call 28; refine (l11Good_any _ _ _ _).mono ?_; rintro e w' ⟨rfl, rfl⟩) | (go_at_call 26; refine (l11Enough_any _ _ _ _ (by omega) (by omega) (by omega) (by omega)).mono ?_; rintro e w' ⟨rfl, rfl⟩))
            go_returns
            exact ⟨ret_val (by simp only [chairR, chairB, HS.out, h4, Bool.true_and, Bool.false_and] ; rfl), by go_grown⟩
    · go_enter Try.func18, Try.ntmps18
      go_wp2_with (first | (go_at_call 24; refine (l11Need_any _ _).mono ?_; rintro e w' ⟨rfl, rfl⟩) | (go_at_call 28; refine (l11Good_any _ _ _ _).mono ?_; rintro e w' ⟨rfl, rfl⟩))
      go_returns
      exact ⟨ret_val (by simp [chairR, chairS, h0, h1]), by go_grown⟩
  · go_enter Try.func18, Try.ntmps18
    go_wp2_with (first | (go_at_call 24; refine (l11Need_any _ _).mono ?_; rintro e w' ⟨rfl, rfl⟩) | (go_at_call 28; refine (l11Good_any _ _ _ _).mono ?_; rintro e w' ⟨rfl, rfl⟩))
    go_returns
    exact ⟨ret_val (by simp [chairR, chairS, h0]), by go_grown⟩
set_option maxHeartbeats 800000 in
theorem StrictestNeed_any (y n a : Int) (w : World) : Calls Try.prog 14 #[.agg #[.int .i64 y, .int .i64 n, .int .i64 a]] w fun e w' => e = .returned (strictR y n a) ∧ Below w.heap.size w w' := by
  rcases Bool.eq_false_or_eq_true (vldT y n a) with h1 | h1
  · obtain ⟨_, _, _, _, _, _⟩ := vldT_iff.1 h1
    rcases Bool.eq_false_or_eq_true (adB 3 y n) with h3 | h3 <;> rcases Bool.eq_false_or_eq_true (adB 2 y n) with h4 | h4 <;> rcases Bool.eq_false_or_eq_true (adB 1 y n) with h5 | h5
    all_goals
      go_enter Try.func14, Try.ntmps14
      go_wp2_with (first | (go_at_call 16; refine (isValidTally_any _ _ _ _).mono ?_; rintro e w' ⟨rfl, rfl⟩) | (go_at_call 23; refine (isAdopted0_any _ _ _ _ (by omega) (by omega) (by omega) (by omega)).mono ?_; rintro e w' ⟨rfl, rfl⟩))
      refine wp_loop_rounds 4 ?_
      repeat any_goals (rw [rounds_succ]; go_wp2_with (first | (go_at_call 16; refine (isValidTally_any _ _ _ _).mono ?_; rintro e w' ⟨rfl, rfl⟩) | (go_at_call 23; refine (isAdopted0_any _ _ _ _ (by omega) (by omega) (by omega) (by omega)).mono ?_; rintro e w' ⟨rfl, rfl⟩)))
      go_returns
      exact ⟨ret_val (by simp [strictR, strict, h1, h3, h4, h5]), by go_grown⟩
  · go_enter Try.func14, Try.ntmps14
    go_wp2_with (go_at_call 16; refine (isValidTally_any _ _ _ _).mono ?_; rintro e w' ⟨rfl, rfl⟩)
    go_returns
    exact ⟨ret_val (by simp [strictR, h1]), by go_grown⟩
set_option maxHeartbeats 800000 in
theorem sStrictestNeed_any (y n a : Int) (w : World) : Calls Try.prog 15 #[.agg #[.int .i64 y, .int .i64 n, .int .i64 a]] w fun e w' => e = .returned (strictR y n a) ∧ Below w.heap.size w w' := by
  rcases Bool.eq_false_or_eq_true (vldT y n a) with h1 | h1
  · obtain ⟨_, _, _, _, _, _⟩ := vldT_iff.1 h1
    rcases Bool.eq_false_or_eq_true (adB 3 y n) with h3 | h3 <;> rcases Bool.eq_false_or_eq_true (adB 2 y n) with h4 | h4 <;> rcases Bool.eq_false_or_eq_true (adB 1 y n) with h5 | h5
    all_goals
      go_enter Try.func15, Try.ntmps15
      go_wp2_with (first | (go_at_call 28; refine (l11Good_any _ _ _ _).mono ?_; rintro e w' ⟨rfl, rfl⟩) | (go_at_call 29; refine (l11Adopted_any _ _ _ _ _ (by omega) (by omega) (by omega) (by omega)).mono ?_; rintro e w' ⟨rfl, rfl⟩))
      refine wp_loop_rounds 4 ?_
      repeat any_goals (rw [rounds_succ]; go_wp2_with (first | (go_at_call 28; refine (l11Good_any _ _ _ _).mono ?_; rintro e w' ⟨rfl, rfl⟩) | (go_at_call 29; refine (l11Adopted_any _ _ _ _ _ (by omega) (by omega) (by omega) (by omega)).mono ?_; rintro e w' ⟨rfl, rfl⟩)))
      go_returns
      exact ⟨ret_val (by simp [strictR, strict, h1, h3, h4, h5]), by go_grown⟩
  · go_enter Try.func15, Try.ntmps15
    go_wp2_with (go_at_call 28; refine (l11Good_any _ _ _ _).mono ?_; rintro e w' ⟨rfl, rfl⟩)
    go_returns
    exact ⟨ret_val (by simp [strictR, h1]), by go_grown⟩
end Go.Proofs.Ytjjjahfmgooobaa.Vt
