/- The walks of the laws of chapter 11 (votes) without texts: each returns true. Conditions: none. -/
import Derived.Test.YtnhmggoaldaecaaVt4
import Derived.Test.YtnhmggoaldaecaaVt5
namespace Go.Proofs.Ytnhmggoaldaecaa
open Go.RowKit Vt
set_option linter.unusedVariables false

theorem goodB (y n a : Int) (w : World) : Calls Try.prog 12 #[.agg #[.int .i64 y, .int .i64 n, .int .i64 a]] w fun e w' => e = .returned (.bool (vldT y n a)) ∧ Below w.heap.size w w' := by
  go_enter Try.func12, Try.ntmps12
  go_wp2_with (go_at_call 34; refine (l11Good_any _ _ _ _).mono ?_; rintro e w' ⟨rfl, rfl⟩)
  go_ret
  exact ⟨rfl, by go_grown⟩
theorem validB (y n a : Int) (w : World) : Calls Try.prog 14 #[.agg #[.int .i64 y, .int .i64 n, .int .i64 a]] w fun e w' => e = .returned (.bool (vldT y n a)) ∧ Below w.heap.size w w' :=
  (isValidTally_any y n a w).mono fun e w' ⟨he, hw⟩ => ⟨he, by subst hw; go_grown⟩
def adoptedR2 (k y n a : Int) : Value := .tuple #[.bool (inB k 1 3 && vldT y n a && adB k y n), .bool (inB k 1 3 && vldT y n a)]
theorem adoptedR_eq (k y n a : Int) : adoptedR k y n a = adoptedR2 k y n a := by
  unfold adoptedR adoptedR2
  rcases Bool.eq_false_or_eq_true (inB k 1 3 && vldT y n a) with h | h <;> rw [h] <;> rfl

namespace fnExactYesNeeded
theorem walk (a0 : Int) (w0 : (Lit.int .i64 a0).wf = true) (a1 : Int) (w1 : (Lit.int .i64 a1).wf = true) (w : World) :
    Calls Try.prog 7 #[.int .i64 a0, .int .i64 a1] w fun e w' => e = .returned (.bool true) ∧ Below w.heap.size w w' := by
  rcases h : needed a0 a1 with _ | k
  all_goals
    have H := Lib.hid h
    clear h
    go_enter Try.func7, Try.ntmps7
    go_wp2_with (first
      | (go_at_call 22; refine (sYesNeeded_any _ _ _).mono ?_; rintro e w' ⟨rfl, rfl⟩; rw [H.out]; unfold optR)
      | (go_at_call 23; refine (YesNeeded_any _ _ _).mono ?_; rintro e w' ⟨rfl, rfl⟩; rw [H.out]; unfold optR))
    go_ret
    exact ⟨rfl, by go_grown⟩
end fnExactYesNeeded
namespace fnExactMostNo
theorem walk (a0 : Int) (w0 : (Lit.int .i64 a0).wf = true) (a1 : Int) (w1 : (Lit.int .i64 a1).wf = true) (w : World) :
    Calls Try.prog 6 #[.int .i64 a0, .int .i64 a1] w fun e w' => e = .returned (.bool true) ∧ Below w.heap.size w w' := by
  rcases h : mostNo a0 a1 with _ | k
  all_goals
    have H := Lib.hid h
    clear h
    go_enter Try.func6, Try.ntmps6
    go_wp2_with (first
      | (go_at_call 20; refine (sMostNo_any _ _ _).mono ?_; rintro e w' ⟨rfl, rfl⟩; rw [H.out]; unfold optR)
      | (go_at_call 21; refine (MostNo_any _ _ _).mono ?_; rintro e w' ⟨rfl, rfl⟩; rw [H.out]; unfold optR))
    go_ret
    exact ⟨rfl, by go_grown⟩
end fnExactMostNo
namespace fnExactStrictestNeed
set_option maxHeartbeats 800000 in
theorem walk  (y n a : Int) (wy : (Lit.int .i64 y).wf = true) (wn : (Lit.int .i64 n).wf = true) (wa : (Lit.int .i64 a).wf = true) (w : World) :
    Calls Try.prog 10 #[.agg #[.int .i64 y, .int .i64 n, .int .i64 a]] w fun e w' => e = .returned (.bool true) ∧ Below w.heap.size w w' := by
  go_enter Try.func10, Try.ntmps10
  go_wp2_with (first
    | (go_at_call 13; refine (toTally_any _ _ _ _).mono ?_; rintro e w' ⟨rfl, hb⟩; have hB := after1 (B := w.heap.size + 1) (W0 := (w.alloc (.cells #[.int .i64 y, .int .i64 n, .int .i64 a] 23))) (by go_grown) (by simp) hb; obtain ⟨hc, hf⟩ := bcellB hB; clear hb)
    | (go_at_call 28; refine (sStrictestNeed_any _ _ _ _).mono ?_; rintro e w' ⟨rfl, hb⟩; unfold strictR; have hB := after1 (B := w.heap.size + 1) (W0 := (w.alloc (.cells #[.int .i64 y, .int .i64 n, .int .i64 a] 23))) (by go_grown) (by simp) hb; obtain ⟨hc, hf⟩ := bcellB hB; clear hb)
    | (go_at_call 29; refine (StrictestNeed_any _ _ _ _).mono ?_; rintro e w' ⟨rfl, hb⟩; unfold strictR; have hB := after1 (B := w.heap.size + 1) (W0 := (w.alloc (.cells #[.int .i64 y, .int .i64 n, .int .i64 a] 23))) (by go_grown) (by simp) hb; obtain ⟨hc, hf⟩ := bcellB hB; clear hb))
  all_goals (go_ret; exact ⟨rfl, ((Below.refl _ _).alloc (Nat.le_refl _) _).trans (hB.mono (by omega))⟩)
end fnExactStrictestNeed
namespace fnExactIsAdopted
set_option maxHeartbeats 800000 in
theorem walk (k : Int) (wk : (Lit.int .i64 k).wf = true) (y n a : Int) (wy : (Lit.int .i64 y).wf = true) (wn : (Lit.int .i64 n).wf = true) (wa : (Lit.int .i64 a).wf = true) (w : World) :
    Calls Try.prog 8 #[.int .i64 k, .agg #[.int .i64 y, .int .i64 n, .int .i64 a]] w fun e w' => e = .returned (.bool true) ∧ Below w.heap.size w w' := by
  go_enter Try.func8, Try.ntmps8
  go_wp2_with (first
    | (go_at_call 13; refine (toTally_any _ _ _ _).mono ?_; rintro e w' ⟨rfl, hb⟩; have hB := after1 (B := w.heap.size + 1) (W0 := (w.alloc (.cells #[.int .i64 y, .int .i64 n, .int .i64 a] 23))) (by go_grown) (by simp) hb; obtain ⟨hc, hf⟩ := bcellB hB; clear hb)
    | (go_at_call 24; refine (sIsAdopted_any _ _ _ _ _).mono ?_; rintro e w' ⟨rfl, hb⟩; rw [adoptedR_eq]; unfold adoptedR2; have hB := after1 (B := w.heap.size + 1) (W0 := (w.alloc (.cells #[.int .i64 y, .int .i64 n, .int .i64 a] 23))) (by go_grown) (by simp) hb; obtain ⟨hc, hf⟩ := bcellB hB; clear hb)
    | (go_at_call 25; refine (IsAdopted_any _ _ _ _ _).mono ?_; rintro e w' ⟨rfl, hb⟩; rw [adoptedR_eq]; unfold adoptedR2; have hB := after1 (B := w.heap.size + 1) (W0 := (w.alloc (.cells #[.int .i64 y, .int .i64 n, .int .i64 a] 23))) (by go_grown) (by simp) hb; obtain ⟨hc, hf⟩ := bcellB hB; clear hb))
  all_goals (go_ret; exact ⟨rfl, ((Below.refl _ _).alloc (Nat.le_refl _) _).trans (hB.mono (by omega))⟩)
end fnExactIsAdopted
namespace fnExactChairMatters
set_option maxHeartbeats 800000 in
theorem walk (k : Int) (wk : (Lit.int .i64 k).wf = true) (y n a : Int) (wy : (Lit.int .i64 y).wf = true) (wn : (Lit.int .i64 n).wf = true) (wa : (Lit.int .i64 a).wf = true) (w : World) :
    Calls Try.prog 5 #[.int .i64 k, .agg #[.int .i64 y, .int .i64 n, .int .i64 a]] w fun e w' => e = .returned (.bool true) ∧ Below w.heap.size w w' := by
  go_enter Try.func5, Try.ntmps5
  go_wp2_with (first
    | (go_at_call 13; refine (toTally_any _ _ _ _).mono ?_; rintro e w' ⟨rfl, hb⟩; have hB := after1 (B := w.heap.size + 1) (W0 := (w.alloc (.cells #[.int .i64 y, .int .i64 n, .int .i64 a] 23))) (by go_grown) (by simp) hb; obtain ⟨hc, hf⟩ := bcellB hB; clear hb)
    | (go_at_call 18; refine (sChairMatters_any _ _ _ _ _).mono ?_; rintro e w' ⟨rfl, hb⟩; unfold chairR; have hB := after1 (B := w.heap.size + 1) (W0 := (w.alloc (.cells #[.int .i64 y, .int .i64 n, .int .i64 a] 23))) (by go_grown) (by simp) hb; obtain ⟨hc, hf⟩ := bcellB hB; clear hb)
    | (go_at_call 19; refine (ChairMatters_any _ _ _ _ _).mono ?_; rintro e w' ⟨rfl, hb⟩; unfold chairR; have hB := after1 (B := w.heap.size + 1) (W0 := (w.alloc (.cells #[.int .i64 y, .int .i64 n, .int .i64 a] 23))) (by go_grown) (by simp) hb; obtain ⟨hc, hf⟩ := bcellB hB; clear hb))
  all_goals (go_ret; exact ⟨rfl, ((Below.refl _ _).alloc (Nat.le_refl _) _).trans (hB.mono (by omega))⟩)
end fnExactChairMatters
namespace fnExactYesShare
set_option maxHeartbeats 800000 in
theorem walk  (y n a : Int) (wy : (Lit.int .i64 y).wf = true) (wn : (Lit.int .i64 n).wf = true) (wa : (Lit.int .i64 a).wf = true) (w : World) :
    Calls Try.prog 9 #[.agg #[.int .i64 y, .int .i64 n, .int .i64 a]] w fun e w' => e = .returned (.bool true) ∧ Below w.heap.size w w' := by
  go_enter Try.func9, Try.ntmps9
  go_wp2_with (first
    | (go_at_call 13; refine (toTally_any _ _ _ _).mono ?_; rintro e w' ⟨rfl, hb⟩; have hB := after1 (B := w.heap.size + 1) (W0 := (w.alloc (.cells #[.int .i64 y, .int .i64 n, .int .i64 a] 23))) (by go_grown) (by simp) hb; obtain ⟨hc, hf⟩ := bcellB hB; clear hb)
    | (go_at_call 26; refine (sYesShare_any _ _ _ _).mono ?_; rintro e w' ⟨rfl, hb⟩; unfold shareR; have hB := after1 (B := w.heap.size + 1) (W0 := (w.alloc (.cells #[.int .i64 y, .int .i64 n, .int .i64 a] 23))) (by go_grown) (by simp) hb; obtain ⟨hc, hf⟩ := bcellB hB; clear hb)
    | (go_at_call 27; refine (YesShare_any _ _ _ _).mono ?_; rintro e w' ⟨rfl, hb⟩; unfold shareR; have hB := after1 (B := w.heap.size + 1) (W0 := (w.alloc (.cells #[.int .i64 y, .int .i64 n, .int .i64 a] 23))) (by go_grown) (by simp) hb; obtain ⟨hc, hf⟩ := bcellB hB; clear hb))
  all_goals (go_ret; exact ⟨rfl, ((Below.refl _ _).alloc (Nat.le_refl _) _).trans (hB.mono (by omega))⟩)
end fnExactYesShare
namespace fnExactIsValidTally
set_option maxHeartbeats 800000 in
theorem walk  (y n a : Int) (wy : (Lit.int .i64 y).wf = true) (wn : (Lit.int .i64 n).wf = true) (wa : (Lit.int .i64 a).wf = true) (w : World) :
    Calls Try.prog 3 #[.agg #[.int .i64 y, .int .i64 n, .int .i64 a]] w fun e w' => e = .returned (.bool true) ∧ Below w.heap.size w w' := by
  go_enter Try.func3, Try.ntmps3
  go_wp2_with (first
    | (go_at_call 13; refine (toTally_any _ _ _ _).mono ?_; rintro e w' ⟨rfl, hb⟩; have hB := after1 (B := w.heap.size + 1) (W0 := (w.alloc (.cells #[.int .i64 y, .int .i64 n, .int .i64 a] 23))) (by go_grown) (by simp) hb; obtain ⟨hc, hf⟩ := bcellB hB; clear hb)
    | (go_at_call 12; refine (goodB _ _ _ _).mono ?_; rintro e w' ⟨rfl, hb⟩; skip; have hB := after1 (B := w.heap.size + 1) (W0 := (w.alloc (.cells #[.int .i64 y, .int .i64 n, .int .i64 a] 23))) (by go_grown) (by simp) hb; obtain ⟨hc, hf⟩ := bcellB hB; clear hb)
    | (go_at_call 14; refine (validB _ _ _ _).mono ?_; rintro e w' ⟨rfl, hb⟩; skip; have hB := after1 (B := w.heap.size + 1) (W0 := (w.alloc (.cells #[.int .i64 y, .int .i64 n, .int .i64 a] 23))) (by go_grown) (by simp) hb; obtain ⟨hc, hf⟩ := bcellB hB; clear hb))
  all_goals (go_ret; exact ⟨rfl, ((Below.refl _ _).alloc (Nat.le_refl _) _).trans (hB.mono (by omega))⟩)
end fnExactIsValidTally
end Go.Proofs.Ytnhmggoaldaecaa
