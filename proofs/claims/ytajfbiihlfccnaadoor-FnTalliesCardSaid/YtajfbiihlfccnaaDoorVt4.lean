/- Contracts of chapter 11 (votes): shares in lowest terms, of the program and of the reference. Conditions: the ranges named. -/
import Derived.Test.YtajfbiihlfccnaaDoorVt3
namespace Go.Proofs.YtajfbiihlfccnaaDoor.Vt
open Go.RowKit
set_option linter.unusedVariables false

def gc (x y : Nat) : Nat := Nat.gcd x y
theorem absOf_any (x : Int) (w : World) (h0 : 0 ≤ x) (h1 : x ≤ 100000) : Calls Tryd.prog 96 #[.int .i64 x] w fun e w' => e = .returned (.int .i64 x) ∧ w = w' := by
  go_enter Tryd.func96, Tryd.ntmps96
  go_wp2
  go_ret
  exact ⟨rfl, rfl⟩
set_option maxHeartbeats 400000 in
theorem gcdOf_any (x y : Nat) (w : World) (hx : x ≤ 100000) (hy : y ≤ 100000) : Calls Tryd.prog 83 #[.int .i64 x, .int .i64 y] w fun e w' => e = .returned (.int .i64 (gc x y)) ∧ ∃ n, w' = w.drewN n := by
  go_enter Tryd.func83, Tryd.ntmps83
  go_wp2_with (go_at_call 96; refine (absOf_any _ _ (by omega) (by omega)).mono ?_; rintro e w' ⟨rfl, rfl⟩)
  go_loopw [0, 1] (fun u v wr => ∃ a b n : Nat, a ≤ 100000 ∧ b ≤ 100000 ∧ u = .int .i64 a ∧ v = .int .i64 b ∧ Hid (Nat.gcd x y = Nat.gcd a b) ∧ wr = w.drewN n) (fun _ v _ => (intOf v).toNat)
  case atStart => exact ⟨x, y, 0, hx, hy, rfl, rfl, rfl, rfl⟩
  case round =>
    obtain ⟨a, b, n, ha, hb, rfl, rfl, hg, rfl⟩ := hrel
    by_cases hlt : 0 < b
    · have HG := Lib.hid (gcd_round a b hlt)
      have hm := Nat.mod_lt a hlt
      have hne : ((b : Int) != 0) = true := by simp; omega
      go_wp2
      go_quiet (fail)
      go_wp2
      go_roundw
      case rel => exact ⟨b, a % b, _, hb, by omega, rfl, by go_num, hg.out.trans HG.out.symm, World.drewN_drewN _ _ _⟩
      case measure => simp [intOf]; omega
    · obtain rfl : b = 0 := by omega
      go_wp2
      go_ret
      exact ⟨ret_int (by unfold gc; rw [hg.out, gcd_zero]), _, rfl⟩
theorem lowestTerms_any (x y : Nat) (w : World) (hx : x ≤ 100000) (hy : y ≤ 100000) (h0 : 0 < y) : Calls Tryd.prog 52 #[.int .i64 x, .int .i64 y] w fun e w' => e = .returned (.tuple #[.int .i64 ((x : Int) / (gc x y : Nat)), .int .i64 ((y : Int) / (gc x y : Nat))]) ∧ ∃ n, w' = w.drewN n := by
  have hg0 : 0 < gc x y := Nat.gcd_pos_of_pos_right _ h0
  have hg1 : gc x y ≤ 100000 := Nat.le_trans (Nat.gcd_le_right _ h0) hy
  have hG := gcdOf_any x y w hx hy
  generalize gc x y = g at *
  have HG := Lib.hid hG
  clear hG
  have hne : ((g : Int) == 0) = false := by simp; omega
  have q1 : 0 ≤ (x : Int) / g := Int.ediv_nonneg (by omega) (by omega)
  have q2 : (x : Int) / g ≤ 100000 := Int.le_trans (Int.ediv_le_self _ (by omega)) (by omega)
  have q3 : 0 ≤ (y : Int) / g := Int.ediv_nonneg (by omega) (by omega)
  have q4 : (y : Int) / g ≤ 100000 := Int.le_trans (Int.ediv_le_self _ (by omega)) (by omega)
  go_enter Tryd.func52, Tryd.ntmps52
  go_wp2_with (go_at_call 83; refine HG.out.mono ?_; rintro e w' ⟨rfl, n, rfl⟩)
  go_quiet (fail)
  go_wp2
  go_ret2
  exact ⟨rfl, _, World.drewN_drewN _ _ _⟩

def shareS (y n a : Int) : Bool := vldT y n a && !(y + n == 0)
def shareV (y n a : Int) : Int := y / (gc y.toNat (y + n).toNat : Nat)
def shareW (y n a : Int) : Int := (y + n) / (gc y.toNat (y + n).toNat : Nat)
def shareR (y n a : Int) : Value := .tuple #[.int .i64 (if shareS y n a then shareV y n a else 0), .int .i64 (if shareS y n a then shareW y n a else 0), .bool (shareS y n a)]
theorem YesShare_any (y n a : Int) (w : World) : Calls Tryd.prog 16 #[.agg #[.int .i64 y, .int .i64 n, .int .i64 a]] w fun e w' => e = .returned (shareR y n a) ∧ Below w.heap.size w w' := by
  rcases Bool.eq_false_or_eq_true (vldT y n a) with h1 | h1
  · obtain ⟨_, _, _, _, _, _⟩ := vldT_iff.1 h1
    rcases Bool.eq_false_or_eq_true (y + n == 0) with h2 | h2
    · go_enter Tryd.func16, Tryd.ntmps16
      go_wp2_with (go_at_call 46; refine (isValidTally_any _ _ _ _).mono ?_; rintro e w' ⟨rfl, rfl⟩)
      go_returns
      exact ⟨ret_val (by simp [shareR, shareS, h1, h2]), by go_grown⟩
    · have hR : shareR y n a = .tuple #[.int .i64 (y / (gc y.toNat (y + n).toNat : Nat)), .int .i64 ((y + n) / (gc y.toNat (y + n).toNat : Nat)), .bool true] := by simp [shareR, shareS, shareV, shareW, h1, h2]
      rw [hR]
      clear hR
      have h3 : 0 < y + n := by simp at h2; omega
      obtain ⟨u, rfl⟩ := Int.eq_ofNat_of_zero_le (show 0 ≤ y by assumption)
      obtain ⟨v, rfl⟩ := Int.eq_ofNat_of_zero_le (show 0 ≤ n by assumption)
      have hC := fun W => lowestTerms_any u (u + v) W (by omega) (by omega) (by omega)
      rw [show ((u : Int) + (v : Int)).toNat = u + v from by omega, Int.toNat_natCast]
      rw [Int.natCast_add] at hC
      have HC := Lib.hid hC
      clear hC
      go_enter Tryd.func16, Tryd.ntmps16
      go_wp2_with (first
        | (go_at_call 46; refine (isValidTally_any _ _ _ _).mono ?_; rintro e w' ⟨rfl, rfl⟩)
        | (go_at_call 52; refine (HC.out _).mono ?_; rintro e w' ⟨rfl, m, rfl⟩))
      go_returns
      exact ⟨rfl, below_drewN (by go_grown) _⟩
  · go_enter Tryd.func16, Tryd.ntmps16
    go_wp2_with (go_at_call 46; refine (isValidTally_any _ _ _ _).mono ?_; rintro e w' ⟨rfl, rfl⟩)
    go_returns
    exact ⟨ret_val (by simp [shareR, shareS, h1]), by go_grown⟩

theorem sCommon (x y : Nat) (w : World) (hx : x ≤ 100000) (hy : y ≤ 100000) : Calls Tryd.prog 53 #[.int .i64 x, .int .i64 y] w fun e w' => e = .returned (.int .i64 (gc x y)) ∧ w = w' := l11Common_any x y w hx hy
theorem sYesShare_any (y n a : Int) (w : World) : Calls Tryd.prog 17 #[.agg #[.int .i64 y, .int .i64 n, .int .i64 a]] w fun e w' => e = .returned (shareR y n a) ∧ Below w.heap.size w w' := by
  rcases Bool.eq_false_or_eq_true (vldT y n a) with h1 | h1
  · obtain ⟨_, _, _, _, _, _⟩ := vldT_iff.1 h1
    rcases Bool.eq_false_or_eq_true (y + n == 0) with h2 | h2
    · go_enter Tryd.func17, Tryd.ntmps17
      go_wp2_with (go_at_call 42; refine (l11Good_any _ _ _ _).mono ?_; rintro e w' ⟨rfl, rfl⟩)
      go_returns
      exact ⟨ret_val (by simp [shareR, shareS, h1, h2]), by go_grown⟩
    · have hR : shareR y n a = .tuple #[.int .i64 (y / (gc y.toNat (y + n).toNat : Nat)), .int .i64 ((y + n) / (gc y.toNat (y + n).toNat : Nat)), .bool true] := by simp [shareR, shareS, shareV, shareW, h1, h2]
      rw [hR]
      clear hR
      have h3 : 0 < y + n := by simp at h2; omega
      obtain ⟨u, rfl⟩ := Int.eq_ofNat_of_zero_le (show 0 ≤ y by assumption)
      obtain ⟨v, rfl⟩ := Int.eq_ofNat_of_zero_le (show 0 ≤ n by assumption)
      have hC := fun W => sCommon u (u + v) W (by omega) (by omega)
      rw [show ((u : Int) + (v : Int)).toNat = u + v from by omega, Int.toNat_natCast]
      rw [Int.natCast_add] at hC
      have hg0 : 0 < gc u (u + v) := Nat.gcd_pos_of_pos_right _ (by omega)
      have hg1 : gc u (u + v) ≤ 100000 := Nat.le_trans (Nat.gcd_le_right _ (by omega)) (by omega)
      generalize gc u (u + v) = g at *
      have HC := Lib.hid hC
      clear hC
      have hne : ((g : Int) == 0) = false := by simp; omega
      have q1 : 0 ≤ (u : Int) / g := Int.ediv_nonneg (by omega) (by omega)
      have q2 : (u : Int) / g ≤ 100000 := Int.le_trans (Int.ediv_le_self _ (by omega)) (by omega)
      have q3 : 0 ≤ ((u : Int) + v) / g := Int.ediv_nonneg (by omega) (by omega)
      have q4 : ((u : Int) + v) / g ≤ 100000 := Int.le_trans (Int.ediv_le_self _ (by omega)) (by omega)
      go_enter Tryd.func17, Tryd.ntmps17
      go_wp2_with (first
        | (go_at_call 42; refine (l11Good_any _ _ _ _).mono ?_; rintro e w' ⟨rfl, rfl⟩)
        | (go_at_call 53; refine (HC.out _).mono ?_; rintro e w' ⟨rfl, rfl⟩))
      go_quiet (fail)
      go_wp2
      go_returns
      exact ⟨rfl, below_drewN (by go_grown) _⟩
  · go_enter Tryd.func17, Tryd.ntmps17
    go_wp2_with (go_at_call 42; refine (l11Good_any _ _ _ _).mono ?_; rintro e w' ⟨rfl, rfl⟩)
    go_returns
    exact ⟨ret_val (by simp [shareR, shareS, h1]), by go_grown⟩
end Go.Proofs.YtajfbiihlfccnaaDoor.Vt
