/- Comparisons of numbers and of lists of numbers. Conditions: the ranges named. -/
import Derived.Test.YthohogimhijbdaaHv1
import Derived.Test.YthohogimhijbdaaInts
import Derived.Deep.DrawnRows
namespace Go.Proofs.Ythohogimhijbdaa
open Go.RowKit
set_option linter.unusedVariables false
set_option linter.unusedSimpArgs false
attribute [local go_sem ↓] Go.wp_at_zero Go.wp_at_succ
theorem isNaN_any (x : Int) (w : World) : Calls Try.prog 69 #[.int .i64 x] w fun e w' => e = .returned (.bool false) ∧ w = w' := by
  have h : (x != x) = false := by simp
  go_enter Try.func69, Try.ntmps69
  go_wp2
  go_ret
  exact ⟨by first | rfl | simp, rfl⟩
theorem compare_any (x y : Int) (w : World) : Calls Try.prog 51 #[.int .i64 x, .int .i64 y] w fun e w' => e = .returned (.int .i64 (cmpI x y)) ∧ w = w' := by
  by_cases h1 : x < y
  · have HR := Lib.hid (show cmpI x y = -1 by unfold cmpI; rw [if_pos h1])
    go_enter Try.func51, Try.ntmps51
    go_wp2_with (go_at_call 69; refine (isNaN_any _ _).mono ?_; rintro e w9 ⟨rfl, rfl⟩)
    go_ret
    exact ⟨ret_int HR.out.symm, rfl⟩
  · by_cases h2 : y < x
    · have HR := Lib.hid (show cmpI x y = 1 by unfold cmpI; rw [if_neg h1, if_pos h2])
      go_enter Try.func51, Try.ntmps51
      go_wp2_with (go_at_call 69; refine (isNaN_any _ _).mono ?_; rintro e w9 ⟨rfl, rfl⟩)
      go_ret
      exact ⟨ret_int HR.out.symm, rfl⟩
    · have HR := Lib.hid (show cmpI x y = 0 by unfold cmpI; rw [if_neg h1, if_neg h2])
      go_enter Try.func51, Try.ntmps51
      go_wp2_with (go_at_call 69; refine (isNaN_any _ _).mono ?_; rintro e w9 ⟨rfl, rfl⟩)
      go_ret
      exact ⟨ret_int HR.out.symm, rfl⟩
def orL : List Int → Int
  | [] => 0
  | x :: xs => if x ≠ 0 then x else orL xs
theorem orL_three (a b c : Int) : orL [a, b, c] = orI a b c := by
  unfold orI
  simp only [orL]
  split
  · rfl
  · split
    · rfl
    · split <;> omega
theorem orL_hit {xs : List Int} {k : Nat} (h : k < xs.length) (hn : xs[k] ≠ 0) : orL (xs.drop k) = xs[k] := by rw [List.drop_eq_getElem_cons h, orL, if_pos hn]
theorem orL_miss {xs : List Int} {k : Nat} (h : k < xs.length) (hn : xs[k] = 0) : orL (xs.drop k) = orL (xs.drop (k + 1)) := by rw [List.drop_eq_getElem_cons h, orL, if_neg (by simp [hn])]
set_option maxHeartbeats 1000000 in
theorem or_any (A : Option Addr) (n c : Nat) (xs : List Int) (w : World) (hn : n = xs.length) (ha : Cells w A (IntK.row xs)) (hm : xs.length ≤ 1048576) :
    Calls Try.prog 50 #[.slice A n c] w fun e w' => e = .returned (.int .i64 (orL xs)) ∧ w = w' := by
  subst hn
  go_enter Try.func50, Try.ntmps50
  go_wp2
  go_loopw [8] (fun i wr => ∃ k : Nat, k ≤ xs.length ∧ i = .int .i64 k ∧ Hid (orL xs = orL (xs.drop k)) ∧ w = wr) (fun i _ => xs.length - (intOf i).toNat)
  case atStart => exact ⟨0, Nat.zero_le _, rfl, rfl, rfl⟩
  case round =>
    obtain ⟨k, hk, rfl, hq, rfl⟩ := hrel
    by_cases hlt : k < xs.length
    · obtain ⟨a, rfl, hc0⟩ := int_at ha hlt
      have i1 : (k : Int) < (xs.length : Int) := by omega
      have HY := Lib.hid (fun h => orL_hit hlt h)
      have HN := Lib.hid (fun h => orL_miss hlt h)
      obtain ⟨x, hx⟩ : ∃ x, Hid (xs[k] = x) := ⟨_, Lib.hid rfl⟩
      rw [hx.out] at hc0 HY HN
      by_cases h0 : x = 0
      · have HA := Lib.hid (hq.out.trans (HN.out h0))
        subst h0
        clear HY HN hq
        go_wp2
        go_roundw
        case rel => exact ⟨k + 1, hlt, by go_num, HA.out, by first | rfl | trivial⟩
        case measure => simp [intOf]; omega
      · have HA := Lib.hid (hq.out.trans (HY.out h0))
        have h1 : (x != 0) = true := by simpa using h0
        clear HY HN hq h0
        go_wp2
        go_ret
        exact ⟨ret_int HA.out.symm, rfl⟩
    · obtain rfl : k = xs.length := by omega
      have HA := Lib.hid (show orL xs = 0 by rw [hq.out]; simp [orL])
      go_wp2
      go_ret
      exact ⟨ret_int HA.out.symm, rfl⟩
theorem cmpL_step {xs ys : List Int} {k : Nat} (h : k < xs.length) (h2 : k < ys.length) : cmpL (xs.drop k) (ys.drop k) = if cmpI xs[k] ys[k] = 0 then cmpL (xs.drop (k + 1)) (ys.drop (k + 1)) else cmpI xs[k] ys[k] := by
  rw [List.drop_eq_getElem_cons h, List.drop_eq_getElem_cons h2, cmpL]
theorem cmpL_long {xs ys : List Int} {k : Nat} (h : k < xs.length) (h2 : ys.length ≤ k) : cmpL (xs.drop k) (ys.drop k) = 1 := by
  rw [List.drop_eq_getElem_cons h, List.drop_of_length_le h2, cmpL]
theorem cmpL_short {xs ys : List Int} (h : xs.length < ys.length) : cmpL (xs.drop xs.length) (ys.drop xs.length) = -1 := by
  rw [List.drop_length, List.drop_eq_getElem_cons h, cmpL]
theorem cmpL_end {xs ys : List Int} (h : ys.length ≤ xs.length) : cmpL (xs.drop xs.length) (ys.drop xs.length) = 0 := by
  rw [List.drop_length, List.drop_of_length_le h, cmpL]
set_option maxHeartbeats 1000000 in
theorem compareL_any (A B : Option Addr) (n c m d : Nat) (xs ys : List Int) (w : World) (hn : n = xs.length) (hm : m = ys.length) (ha : Cells w A (IntK.row xs)) (hb : Cells w B (IntK.row ys)) (hx : xs.length ≤ 1048576) (hy : ys.length ≤ 1048576) :
    Calls Try.prog 52 #[.slice A n c, .slice B m d] w fun e w' => e = .returned (.int .i64 (cmpL xs ys)) ∧ w = w' := by
  subst hn hm
  go_enter Try.func52, Try.ntmps52
  go_wp2
  go_loopw [11] (fun i wr => ∃ k : Nat, k ≤ xs.length ∧ i = .int .i64 k ∧ Hid (cmpL xs ys = cmpL (xs.drop k) (ys.drop k)) ∧ w = wr) (fun i _ => xs.length - (intOf i).toNat)
  case atStart => exact ⟨0, Nat.zero_le _, rfl, rfl, rfl⟩
  case round =>
    obtain ⟨k, hk, rfl, hq, rfl⟩ := hrel
    by_cases hlt : k < xs.length
    · obtain ⟨a, rfl, hc0⟩ := int_at ha hlt
      have i1 : (k : Int) < (xs.length : Int) := by omega
      by_cases hlt2 : k < ys.length
      · obtain ⟨b, rfl, hd0⟩ := int_at hb hlt2
        have i2 : (k : Int) < (ys.length : Int) := by omega
        have HS := Lib.hid (cmpL_step hlt hlt2)
        obtain ⟨x, hx⟩ : ∃ x, Hid (xs[k] = x) := ⟨_, Lib.hid rfl⟩
        obtain ⟨y, hy⟩ : ∃ x, Hid (ys[k] = x) := ⟨_, Lib.hid rfl⟩
        rw [hx.out] at hc0 HS
        rw [hy.out] at hd0 HS
        have HC := Lib.hid (fun W => compare_any x y W)
        generalize cmpI x y = M at *
        by_cases h0 : M = 0
        · have HA := Lib.hid (hq.out.trans (HS.out.trans (if_pos h0)))
          subst h0
          clear HS hq
          go_wp2_with (go_at_call 51; refine (HC.out _).mono ?_; rintro e w9 ⟨rfl, rfl⟩)
          go_roundw
          case rel => exact ⟨k + 1, hlt, by go_num, HA.out, by first | rfl | trivial⟩
          case measure => simp [intOf]; omega
        · have HA := Lib.hid (hq.out.trans (HS.out.trans (if_neg h0)))
          have h1 : (M != 0) = true := by simpa using h0
          clear HS hq h0
          go_wp2_with (go_at_call 51; refine (HC.out _).mono ?_; rintro e w9 ⟨rfl, rfl⟩)
          go_ret
          exact ⟨ret_int HA.out.symm, rfl⟩
      · have i2 : (ys.length : Int) ≤ (k : Int) := by omega
        have HA := Lib.hid (hq.out.trans (cmpL_long hlt (by omega)))
        clear hq
        go_wp2
        go_ret
        exact ⟨ret_int HA.out.symm, rfl⟩
    · obtain rfl : k = xs.length := by omega
      by_cases hl : xs.length < ys.length
      · have i3 : (xs.length : Int) < (ys.length : Int) := by omega
        have HA := Lib.hid (hq.out.trans (cmpL_short hl))
        clear hq
        go_wp2
        go_ret
        exact ⟨ret_int HA.out.symm, rfl⟩
      · have i3 : ¬ (xs.length : Int) < (ys.length : Int) := by omega
        have HA := Lib.hid (hq.out.trans (cmpL_end (by omega)))
        clear hq
        go_wp2
        go_ret
        exact ⟨ret_int HA.out.symm, rfl⟩
theorem lexB_step {xs ys : List Int} {k : Nat} (h : k < xs.length) (h2 : k < ys.length) : lexB (xs.drop k) (ys.drop k) = if xs[k] = ys[k] then lexB (xs.drop (k + 1)) (ys.drop (k + 1)) else decide (xs[k] < ys[k]) := by
  rw [List.drop_eq_getElem_cons h, List.drop_eq_getElem_cons h2, lexB]
theorem lexB_end {xs ys : List Int} {k : Nat} (h1 : k ≤ xs.length) (h2 : k ≤ ys.length) (h : ¬ (k < xs.length ∧ k < ys.length)) : lexB (xs.drop k) (ys.drop k) = decide (xs.length < ys.length) := by
  rcases Nat.lt_or_ge k xs.length with h3 | h3
  · have h4 : ys.length ≤ k := by omega
    rw [List.drop_eq_getElem_cons h3, List.drop_of_length_le h4, lexB]
    symm; rw [decide_eq_false_iff_not]; omega
  · rw [List.drop_of_length_le h3]
    rcases Nat.lt_or_ge k ys.length with h4 | h4
    · rw [List.drop_eq_getElem_cons h4, lexB]
      symm; rw [decide_eq_true_eq]; omega
    · rw [List.drop_of_length_le h4, lexB]
      symm; rw [decide_eq_false_iff_not]; omega
set_option maxHeartbeats 1000000 in
theorem l10Less_any (A B : Option Addr) (n c m d : Nat) (xs ys : List Int) (w : World) (hn : n = xs.length) (hm : m = ys.length) (ha : Cells w A (IntK.row xs)) (hb : Cells w B (IntK.row ys)) (hx : xs.length ≤ 1048576) (hy : ys.length ≤ 1048576) :
    Calls Try.prog 49 #[.slice A n c, .slice B m d] w fun e w' => e = .returned (.bool (lexB xs ys)) ∧ Below w.heap.size w w' := by
  subst hn hm
  go_enter Try.func49, Try.ntmps49
  go_wp2
  go_loopw [5] (fun i wr => ∃ k : Nat, k ≤ xs.length ∧ k ≤ ys.length ∧ i = .int .i64 k ∧ Hid (lexB xs ys = lexB (xs.drop k) (ys.drop k)) ∧ ∃ r, wr = w.drewN r) (fun i _ => xs.length - (intOf i).toNat)
  case atStart => exact ⟨0, Nat.zero_le _, Nat.zero_le _, rfl, rfl, 0, rfl⟩
  case round =>
    obtain ⟨k, hk, hk2, rfl, hq, r, rfl⟩ := hrel
    by_cases hlt : k < xs.length
    · have i1 : (k : Int) < (xs.length : Int) := by omega
      by_cases hlt2 : k < ys.length
      · obtain ⟨a, rfl, hc0⟩ := int_at ha hlt
        obtain ⟨b, rfl, hd0⟩ := int_at hb hlt2
        have i2 : (k : Int) < (ys.length : Int) := by omega
        have HS := Lib.hid (lexB_step hlt hlt2)
        obtain ⟨x, hx⟩ : ∃ x, Hid (xs[k] = x) := ⟨_, Lib.hid rfl⟩
        obtain ⟨y, hy⟩ : ∃ x, Hid (ys[k] = x) := ⟨_, Lib.hid rfl⟩
        rw [hx.out] at hc0 HS
        rw [hy.out] at hd0 HS
        by_cases h0 : x = y
        · have HA := Lib.hid (hq.out.trans (HS.out.trans (if_pos h0)))
          subst h0
          have hne : (x != x) = false := by simp
          clear HS hq
          go_wp2
          go_quiet (fail)
          go_wp2
          go_roundw
          case rel => exact ⟨k + 1, hlt, hlt2, by go_num, HA.out, by first | exact ⟨_, rfl⟩ | exact ⟨_, World.drewN_drewN _ _ _⟩ | exact drew_ex⟩
          case measure => simp [intOf]; omega
        · have HA := Lib.hid (hq.out.trans (HS.out.trans (if_neg h0)))
          have h1 : (x != y) = true := by simpa using h0
          clear HS hq h0
          go_wp2
          go_quiet (fail)
          go_wp2
          go_quiet (fail)
          go_wp2
          go_ret
          exact ⟨ret_bool HA.out.symm, by (repeat (first | exact Below.refl _ _ | refine below_drewN ?_ _))⟩
      · have i2 : ¬ (k : Int) < (ys.length : Int) := by omega
        have HA := Lib.hid (hq.out.trans (lexB_end hk hk2 (by omega)))
        clear hq
        go_wp2
        go_ret
        exact ⟨ret_bool HA.out.symm, by (repeat (first | exact Below.refl _ _ | refine below_drewN ?_ _))⟩
    · have i1 : ¬ (k : Int) < (xs.length : Int) := by omega
      have HA := Lib.hid (hq.out.trans (lexB_end hk hk2 (by omega)))
      clear hq
      go_wp2
      go_ret
      exact ⟨ret_bool HA.out.symm, by (repeat (first | exact Below.refl _ _ | refine below_drewN ?_ _))⟩
end Go.Proofs.Ythohogimhijbdaa
