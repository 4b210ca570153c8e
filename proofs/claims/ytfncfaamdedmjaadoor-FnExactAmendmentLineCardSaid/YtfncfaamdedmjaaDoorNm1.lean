/- Numerals of small numbers. Conditions: the ranges named. -/
import Derived.Test.YtfncfaamdedmjaaDoorKit
import Derived.Test.YtfncfaamdedmjaaDoorShelfJ
import Derived.BigQuiet
import Derived.Deep.DrawnRows
namespace Go.Proofs.YtfncfaamdedmjaaDoor
open Go.RowKit
set_option linter.unusedVariables false
set_option linter.unusedSimpArgs false
/-- The numeral of a number. -/
def dec (i : Nat) : ByteArray := ⟨(Go.Lib.decDigits i).toArray⟩
theorem dec_0 : dec 0 = ⟨#[48]⟩ := by unfold dec; simp [Go.Lib.decDigits]
theorem dec_1 : dec 1 = ⟨#[49]⟩ := by unfold dec; simp [Go.Lib.decDigits]
theorem dec_2 : dec 2 = ⟨#[50]⟩ := by unfold dec; simp [Go.Lib.decDigits]
theorem dec_3 : dec 3 = ⟨#[51]⟩ := by unfold dec; simp [Go.Lib.decDigits]
theorem dec_4 : dec 4 = ⟨#[52]⟩ := by unfold dec; simp [Go.Lib.decDigits]
theorem dec_5 : dec 5 = ⟨#[53]⟩ := by unfold dec; simp [Go.Lib.decDigits]
theorem dec_6 : dec 6 = ⟨#[54]⟩ := by unfold dec; simp [Go.Lib.decDigits]
theorem dec_7 : dec 7 = ⟨#[55]⟩ := by unfold dec; simp [Go.Lib.decDigits]
theorem dec_8 : dec 8 = ⟨#[56]⟩ := by unfold dec; simp [Go.Lib.decDigits]
theorem dec_9 : dec 9 = ⟨#[57]⟩ := by unfold dec; simp [Go.Lib.decDigits]
theorem dec_10 : dec 10 = ⟨#[49, 48]⟩ := by unfold dec; simp [Go.Lib.decDigits]
theorem dec_11 : dec 11 = ⟨#[49, 49]⟩ := by unfold dec; simp [Go.Lib.decDigits]
theorem dec_12 : dec 12 = ⟨#[49, 50]⟩ := by unfold dec; simp [Go.Lib.decDigits]
theorem dec_13 : dec 13 = ⟨#[49, 51]⟩ := by unfold dec; simp [Go.Lib.decDigits]
theorem dec_14 : dec 14 = ⟨#[49, 52]⟩ := by unfold dec; simp [Go.Lib.decDigits]
theorem dec_15 : dec 15 = ⟨#[49, 53]⟩ := by unfold dec; simp [Go.Lib.decDigits]
theorem dec_16 : dec 16 = ⟨#[49, 54]⟩ := by unfold dec; simp [Go.Lib.decDigits]
theorem dec_17 : dec 17 = ⟨#[49, 55]⟩ := by unfold dec; simp [Go.Lib.decDigits]
theorem dec_18 : dec 18 = ⟨#[49, 56]⟩ := by unfold dec; simp [Go.Lib.decDigits]
theorem dec_19 : dec 19 = ⟨#[49, 57]⟩ := by unfold dec; simp [Go.Lib.decDigits]
theorem dec_20 : dec 20 = ⟨#[50, 48]⟩ := by unfold dec; simp [Go.Lib.decDigits]
theorem dec_size {i : Nat} (h : i ≤ 20) : (dec i).size ≤ 2 := by
  have h1 : i = 0 ∨ i = 1 ∨ i = 2 ∨ i = 3 ∨ i = 4 ∨ i = 5 ∨ i = 6 ∨ i = 7 ∨ i = 8 ∨ i = 9 ∨ i = 10 ∨ i = 11 ∨ i = 12 ∨ i = 13 ∨ i = 14 ∨ i = 15 ∨ i = 16 ∨ i = 17 ∨ i = 18 ∨ i = 19 ∨ i = 20 := by omega
  rcases h1 with rfl | rfl | rfl | rfl | rfl | rfl | rfl | rfl | rfl | rfl | rfl | rfl | rfl | rfl | rfl | rfl | rfl | rfl | rfl | rfl | rfl
  · rw [dec_0]; decide
  · rw [dec_1]; decide
  · rw [dec_2]; decide
  · rw [dec_3]; decide
  · rw [dec_4]; decide
  · rw [dec_5]; decide
  · rw [dec_6]; decide
  · rw [dec_7]; decide
  · rw [dec_8]; decide
  · rw [dec_9]; decide
  · rw [dec_10]; decide
  · rw [dec_11]; decide
  · rw [dec_12]; decide
  · rw [dec_13]; decide
  · rw [dec_14]; decide
  · rw [dec_15]; decide
  · rw [dec_16]; decide
  · rw [dec_17]; decide
  · rw [dec_18]; decide
  · rw [dec_19]; decide
  · rw [dec_20]; decide
theorem l1Num_0 (w : World) : Calls Tryd.prog 36 #[.int .i64 0] w fun e w' => e = .returned (.string (dec 0)) ∧ ∃ m, w' = w.drewN m := by
  have hd := dec_0
  go_enter Tryd.func36, Tryd.ntmps36
  go_wp2
  go_ret
  exact ⟨by rw [hd]; rfl, 0, rfl⟩
theorem l1Num_1 (w : World) : Calls Tryd.prog 36 #[.int .i64 1] w fun e w' => e = .returned (.string (dec 1)) ∧ ∃ m, w' = w.drewN m := by
  have hd := dec_1
  go_enter Tryd.func36, Tryd.ntmps36
  go_wp2
  go_ret
  exact ⟨by rw [hd]; rfl, 0, rfl⟩
theorem l1Num_2 (w : World) : Calls Tryd.prog 36 #[.int .i64 2] w fun e w' => e = .returned (.string (dec 2)) ∧ ∃ m, w' = w.drewN m := by
  have hd := dec_2
  go_enter Tryd.func36, Tryd.ntmps36
  go_wp2
  go_ret
  exact ⟨by rw [hd]; rfl, 0, rfl⟩
theorem l1Num_3 (w : World) : Calls Tryd.prog 36 #[.int .i64 3] w fun e w' => e = .returned (.string (dec 3)) ∧ ∃ m, w' = w.drewN m := by
  have hd := dec_3
  go_enter Tryd.func36, Tryd.ntmps36
  go_wp2
  go_ret
  exact ⟨by rw [hd]; rfl, 0, rfl⟩
theorem l1Num_4 (w : World) : Calls Tryd.prog 36 #[.int .i64 4] w fun e w' => e = .returned (.string (dec 4)) ∧ ∃ m, w' = w.drewN m := by
  have hd := dec_4
  go_enter Tryd.func36, Tryd.ntmps36
  go_wp2
  go_ret
  exact ⟨by rw [hd]; rfl, 0, rfl⟩
theorem l1Num_5 (w : World) : Calls Tryd.prog 36 #[.int .i64 5] w fun e w' => e = .returned (.string (dec 5)) ∧ ∃ m, w' = w.drewN m := by
  have hd := dec_5
  go_enter Tryd.func36, Tryd.ntmps36
  go_wp2
  go_ret
  exact ⟨by rw [hd]; rfl, 0, rfl⟩
theorem l1Num_6 (w : World) : Calls Tryd.prog 36 #[.int .i64 6] w fun e w' => e = .returned (.string (dec 6)) ∧ ∃ m, w' = w.drewN m := by
  have hd := dec_6
  go_enter Tryd.func36, Tryd.ntmps36
  go_wp2
  go_ret
  exact ⟨by rw [hd]; rfl, 0, rfl⟩
theorem l1Num_7 (w : World) : Calls Tryd.prog 36 #[.int .i64 7] w fun e w' => e = .returned (.string (dec 7)) ∧ ∃ m, w' = w.drewN m := by
  have hd := dec_7
  go_enter Tryd.func36, Tryd.ntmps36
  go_wp2
  go_ret
  exact ⟨by rw [hd]; rfl, 0, rfl⟩
theorem l1Num_8 (w : World) : Calls Tryd.prog 36 #[.int .i64 8] w fun e w' => e = .returned (.string (dec 8)) ∧ ∃ m, w' = w.drewN m := by
  have hd := dec_8
  go_enter Tryd.func36, Tryd.ntmps36
  go_wp2
  go_ret
  exact ⟨by rw [hd]; rfl, 0, rfl⟩
theorem l1Num_9 (w : World) : Calls Tryd.prog 36 #[.int .i64 9] w fun e w' => e = .returned (.string (dec 9)) ∧ ∃ m, w' = w.drewN m := by
  have hd := dec_9
  go_enter Tryd.func36, Tryd.ntmps36
  go_wp2
  go_ret
  exact ⟨by rw [hd]; rfl, 0, rfl⟩
theorem l1Num_10 (w : World) : Calls Tryd.prog 36 #[.int .i64 10] w fun e w' => e = .returned (.string (dec 10)) ∧ ∃ m, w' = w.drewN m := by
  have hd := dec_10
  go_enter Tryd.func36, Tryd.ntmps36
  have hd2 := dec_1
  go_wp2
  go_quiet ((go_at_call 36; exact Go.Calls.quiet_of (l1Num_1 _)))
  go_wp2
  go_ret
  exact ⟨by rw [hd]; rfl, _, rfl⟩
theorem l1Num_11 (w : World) : Calls Tryd.prog 36 #[.int .i64 11] w fun e w' => e = .returned (.string (dec 11)) ∧ ∃ m, w' = w.drewN m := by
  have hd := dec_11
  go_enter Tryd.func36, Tryd.ntmps36
  have hd2 := dec_1
  go_wp2
  go_quiet ((go_at_call 36; exact Go.Calls.quiet_of (l1Num_1 _)))
  go_wp2
  go_ret
  exact ⟨by rw [hd]; rfl, _, rfl⟩
theorem l1Num_12 (w : World) : Calls Tryd.prog 36 #[.int .i64 12] w fun e w' => e = .returned (.string (dec 12)) ∧ ∃ m, w' = w.drewN m := by
  have hd := dec_12
  go_enter Tryd.func36, Tryd.ntmps36
  have hd2 := dec_1
  go_wp2
  go_quiet ((go_at_call 36; exact Go.Calls.quiet_of (l1Num_1 _)))
  go_wp2
  go_ret
  exact ⟨by rw [hd]; rfl, _, rfl⟩
theorem l1Num_13 (w : World) : Calls Tryd.prog 36 #[.int .i64 13] w fun e w' => e = .returned (.string (dec 13)) ∧ ∃ m, w' = w.drewN m := by
  have hd := dec_13
  go_enter Tryd.func36, Tryd.ntmps36
  have hd2 := dec_1
  go_wp2
  go_quiet ((go_at_call 36; exact Go.Calls.quiet_of (l1Num_1 _)))
  go_wp2
  go_ret
  exact ⟨by rw [hd]; rfl, _, rfl⟩
theorem l1Num_14 (w : World) : Calls Tryd.prog 36 #[.int .i64 14] w fun e w' => e = .returned (.string (dec 14)) ∧ ∃ m, w' = w.drewN m := by
  have hd := dec_14
  go_enter Tryd.func36, Tryd.ntmps36
  have hd2 := dec_1
  go_wp2
  go_quiet ((go_at_call 36; exact Go.Calls.quiet_of (l1Num_1 _)))
  go_wp2
  go_ret
  exact ⟨by rw [hd]; rfl, _, rfl⟩
theorem l1Num_15 (w : World) : Calls Tryd.prog 36 #[.int .i64 15] w fun e w' => e = .returned (.string (dec 15)) ∧ ∃ m, w' = w.drewN m := by
  have hd := dec_15
  go_enter Tryd.func36, Tryd.ntmps36
  have hd2 := dec_1
  go_wp2
  go_quiet ((go_at_call 36; exact Go.Calls.quiet_of (l1Num_1 _)))
  go_wp2
  go_ret
  exact ⟨by rw [hd]; rfl, _, rfl⟩
theorem l1Num_16 (w : World) : Calls Tryd.prog 36 #[.int .i64 16] w fun e w' => e = .returned (.string (dec 16)) ∧ ∃ m, w' = w.drewN m := by
  have hd := dec_16
  go_enter Tryd.func36, Tryd.ntmps36
  have hd2 := dec_1
  go_wp2
  go_quiet ((go_at_call 36; exact Go.Calls.quiet_of (l1Num_1 _)))
  go_wp2
  go_ret
  exact ⟨by rw [hd]; rfl, _, rfl⟩
theorem l1Num_17 (w : World) : Calls Tryd.prog 36 #[.int .i64 17] w fun e w' => e = .returned (.string (dec 17)) ∧ ∃ m, w' = w.drewN m := by
  have hd := dec_17
  go_enter Tryd.func36, Tryd.ntmps36
  have hd2 := dec_1
  go_wp2
  go_quiet ((go_at_call 36; exact Go.Calls.quiet_of (l1Num_1 _)))
  go_wp2
  go_ret
  exact ⟨by rw [hd]; rfl, _, rfl⟩
theorem l1Num_18 (w : World) : Calls Tryd.prog 36 #[.int .i64 18] w fun e w' => e = .returned (.string (dec 18)) ∧ ∃ m, w' = w.drewN m := by
  have hd := dec_18
  go_enter Tryd.func36, Tryd.ntmps36
  have hd2 := dec_1
  go_wp2
  go_quiet ((go_at_call 36; exact Go.Calls.quiet_of (l1Num_1 _)))
  go_wp2
  go_ret
  exact ⟨by rw [hd]; rfl, _, rfl⟩
theorem l1Num_19 (w : World) : Calls Tryd.prog 36 #[.int .i64 19] w fun e w' => e = .returned (.string (dec 19)) ∧ ∃ m, w' = w.drewN m := by
  have hd := dec_19
  go_enter Tryd.func36, Tryd.ntmps36
  have hd2 := dec_1
  go_wp2
  go_quiet ((go_at_call 36; exact Go.Calls.quiet_of (l1Num_1 _)))
  go_wp2
  go_ret
  exact ⟨by rw [hd]; rfl, _, rfl⟩
theorem l1Num_20 (w : World) : Calls Tryd.prog 36 #[.int .i64 20] w fun e w' => e = .returned (.string (dec 20)) ∧ ∃ m, w' = w.drewN m := by
  have hd := dec_20
  go_enter Tryd.func36, Tryd.ntmps36
  have hd2 := dec_2
  go_wp2
  go_quiet ((go_at_call 36; exact Go.Calls.quiet_of (l1Num_2 _)))
  go_wp2
  go_ret
  exact ⟨by rw [hd]; rfl, _, rfl⟩
theorem l1Num_any (i : Nat) (h : i ≤ 20) (w : World) : Calls Tryd.prog 36 #[.int .i64 i] w fun e w' => e = .returned (.string (dec i)) ∧ ∃ m, w' = w.drewN m := by
  have h1 : i = 0 ∨ i = 1 ∨ i = 2 ∨ i = 3 ∨ i = 4 ∨ i = 5 ∨ i = 6 ∨ i = 7 ∨ i = 8 ∨ i = 9 ∨ i = 10 ∨ i = 11 ∨ i = 12 ∨ i = 13 ∨ i = 14 ∨ i = 15 ∨ i = 16 ∨ i = 17 ∨ i = 18 ∨ i = 19 ∨ i = 20 := by omega
  rcases h1 with rfl | rfl | rfl | rfl | rfl | rfl | rfl | rfl | rfl | rfl | rfl | rfl | rfl | rfl | rfl | rfl | rfl | rfl | rfl | rfl | rfl
  · exact l1Num_0 w
  · exact l1Num_1 w
  · exact l1Num_2 w
  · exact l1Num_3 w
  · exact l1Num_4 w
  · exact l1Num_5 w
  · exact l1Num_6 w
  · exact l1Num_7 w
  · exact l1Num_8 w
  · exact l1Num_9 w
  · exact l1Num_10 w
  · exact l1Num_11 w
  · exact l1Num_12 w
  · exact l1Num_13 w
  · exact l1Num_14 w
  · exact l1Num_15 w
  · exact l1Num_16 w
  · exact l1Num_17 w
  · exact l1Num_18 w
  · exact l1Num_19 w
  · exact l1Num_20 w
theorem itoa_any (i : Nat) (h : i < 100) (w : World) : Calls Tryd.prog 39 #[.int .i64 i] w fun e w' => e = .returned (.string (dec i)) ∧ w' = w := Tryd.strconv_Itoa_small i h w
end Go.Proofs.YtfncfaamdedmjaaDoor
