/- The plain law of FnTallies: tallies come back from their texts; a share is that of the votes cast. No program's step is here. Conditions: none. -/
import Derived.Test.YtajfbiihlfccnaaDoorPt7
import Derived.Test.YtajfbiihlfccnaaDoorTt2
import Derived.Test.YtajfbiihlfccnaaDoorVt4
namespace Go.Proofs.YtajfbiihlfccnaaDoor
set_option linter.unusedVariables false
theorem vldT_nat {y n a : Int} (h : vldT y n a = true) : ((y.toNat : Nat) : Int) = y ∧ ((n.toNat : Nat) : Int) = n ∧ ((a.toNat : Nat) : Int) = a ∧ y.toNat ≤ 1000 ∧ n.toNat ≤ 1000 ∧ a.toNat ≤ 1000 := by
  obtain ⟨h1, h2, h3, h4, h5, h6⟩ := vldT_iff.1 h
  omega
theorem txT_list {y n a : Int} (h : vldT y n a = true) : (txT y n a).data.toList = txL y.toNat n.toNat a.toNat := by
  unfold txT
  rw [if_pos h, tt_tx, bar_list]
/-- What ParseTally gives back of the text of a tally. -/
theorem back_law (y n a : Int) : ∃ (y2 n2 a2 : Int) (b2 : Bool), resT (ptI (txT y n a).data.toList) = .tuple #[.agg #[.int .i64 y2, .int .i64 n2, .int .i64 a2], .bool b2] ∧ (vldT y n a = true → b2 = true ∧ y2 = y ∧ n2 = n ∧ a2 = a) := by
  by_cases h : vldT y n a = true
  · obtain ⟨e1, e2, e3, l1, l2, l3⟩ := vldT_nat h
    rw [txT_list h, (pt_yes l1 l2 l3).1, e1, e2, e3]
    exact ⟨y, n, a, true, rfl, fun _ => ⟨rfl, rfl, rfl, rfl⟩⟩
  · obtain ⟨y2, n2, a2, b2, e⟩ := resT_parts (ptI (txT y n a).data.toList)
    exact ⟨y2, n2, a2, b2, e, fun h2 => absurd h2 h⟩
/-- What is read has the text that was read. -/
theorem read_law (u : ByteArray) : ∃ (y n a : Int) (b : Bool), resT (ptI u.data.toList) = .tuple #[.agg #[.int .i64 y, .int .i64 n, .int .i64 a], .bool b] ∧ resT (ptS u.data.toList) = .tuple #[.agg #[.int .i64 y, .int .i64 n, .int .i64 a], .bool b] ∧ (b = true → vldT y n a = true ∧ txT y n a = u) := by
  rw [← pt_same]
  cases h : ptI u.data.toList with
  | none => exact ⟨0, 0, 0, false, rfl, rfl, fun h2 => by cases h2⟩
  | some t =>
    obtain ⟨h1, h2⟩ := pt_text h
    obtain ⟨y, n, a⟩ := t
    rw [← vl3_eq] at h1
    refine ⟨y, n, a, true, rfl, rfl, fun _ => ⟨h1, ?_⟩⟩
    unfold txT
    rw [if_pos h1, tt_tx]
    exact bar_eq.2 h2
theorem txT_size (y n a : Int) : (txT y n a).size ≤ 1048576 := by
  by_cases h : vldT y n a = true
  · obtain ⟨e1, e2, e3, l1, l2, l3⟩ := vldT_nat h
    have h1 := tx_len l1 l2 l3
    rw [← txT_list h] at h1
    have h2 : (txT y n a).data.toList.length = (txT y n a).size := Array.length_toList
    omega
  · unfold txT
    rw [if_neg h]
    decide
namespace Vt
def pickJ (b : Bool) (x : Int) : Int := if b then x else 0
theorem addR_parts (y n a y' n' a' : Int) : addR y n a y' n' a' = .tuple #[.agg #[.int .i64 (pickJ (addS y n a y' n' a') (y + y')), .int .i64 (pickJ (addS y n a y' n' a') (n + n')), .int .i64 (pickJ (addS y n a y' n' a') (a + a'))], .bool (addS y n a y' n' a')] := by
  unfold addR addV pickJ
  cases addS y n a y' n' a' <;> rfl
theorem share_law {y n a : Int} (h : shareS y n a = true) : shareV y n a * (y + n) = shareW y n a * y ∧ 0 ≤ shareV y n a ∧ shareV y n a ≤ 1000 ∧ 0 ≤ shareW y n a ∧ shareW y n a ≤ 2000 ∧ 0 ≤ y ∧ y ≤ 1000 ∧ 0 ≤ n ∧ n ≤ 1000 := by
  unfold shareS at h
  rw [Bool.and_eq_true] at h
  obtain ⟨h1, h2, h3, h4, h5, h6⟩ := vldT_iff.1 h.1
  have hne : ¬ y + n = 0 := by have := h.2; simpa using this
  obtain ⟨Y, rfl⟩ : ∃ Y : Nat, y = Y := ⟨y.toNat, by omega⟩
  obtain ⟨M, rfl⟩ : ∃ M : Nat, n = M := ⟨n.toNat, by omega⟩
  have e1 : ((Y : Int)).toNat = Y := by omega
  have e2 : ((Y : Int) + (M : Int)).toNat = Y + M := by omega
  have e3 : (Y : Int) + (M : Int) = ((Y + M : Nat) : Int) := by omega
  unfold shareV shareW gc
  rw [e1, e2, e3]
  obtain ⟨p, hp⟩ := Nat.gcd_dvd_left Y (Y + M)
  obtain ⟨q, hq⟩ := Nat.gcd_dvd_right Y (Y + M)
  have hg : 0 < Nat.gcd Y (Y + M) := Nat.gcd_pos_of_pos_right _ (by omega)
  generalize Nat.gcd Y (Y + M) = g at *
  have d1 : Y / g = p := by rw [hp, Nat.mul_div_cancel_left _ hg]
  have d2 : (Y + M) / g = q := by rw [hq, Nat.mul_div_cancel_left _ hg]
  have c1 : (Y : Int) / (g : Int) = ((Y / g : Nat) : Int) := rfl
  have c2 : ((Y + M : Nat) : Int) / (g : Int) = (((Y + M) / g : Nat) : Int) := rfl
  have b1 : Y / g ≤ Y := Nat.div_le_self _ _
  have b2 : (Y + M) / g ≤ Y + M := Nat.div_le_self _ _
  rw [c1, c2]
  refine ⟨?_, by omega, by omega, by omega, by omega, by omega, by omega, by omega, by omega⟩
  rw [← Int.natCast_mul, ← Int.natCast_mul]
  congr 1
  rw [d1, d2]
  calc p * (Y + M) = p * (g * q) := by rw [hq]
    _ = q * (g * p) := by rw [Nat.mul_left_comm, Nat.mul_comm p q, Nat.mul_left_comm]
    _ = q * Y := by rw [← hp]
theorem add_comm (y n a y' n' a' : Int) : addR y' n' a' y n a = addR y n a y' n' a' := by
  have h : addS y' n' a' y n a = addS y n a y' n' a' := by
    unfold addS
    rw [Int.add_comm y' y, Int.add_comm n' n, Int.add_comm a' a, Bool.and_comm (vldT y' n' a')]
  unfold addR addV
  rw [h, Int.add_comm y' y, Int.add_comm n' n, Int.add_comm a' a]
end Vt
end Go.Proofs.YtajfbiihlfccnaaDoor
