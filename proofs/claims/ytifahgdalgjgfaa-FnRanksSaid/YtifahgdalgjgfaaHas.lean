/- Whether a list of numbers has a number, in the library's text and in the reference. Conditions: the ranges named. -/
import Derived.Test.YtifahgdalgjgfaaInts
import Derived.Test.YtifahgdalgjgfaaNum
namespace Go.Proofs.Ytifahgdalgjgfaa
open Go.RowKit
set_option linter.unusedVariables false

/-- The list has the number. -/
def hasB (x : Int) (xs : List Int) : Bool := xs.contains x
theorem hasB_cons (x y : Int) (xs : List Int) : hasB x (y :: xs) = (x == y || hasB x xs) := by unfold hasB; rw [List.contains_cons]
theorem findI_mem (x : Int) (xs : List Int) : decide (0 ≤ findI (fun y => x == y) 0 xs) = hasB x xs := by
  rw [findI_any, Bool.eq_iff_iff]
  unfold hasB
  simp
theorem indexInt_any (A : Option Addr) (n c : Nat) (xs : List Int) (x : Int) (w : World) (hn : n = xs.length) (ha : Cells w A (IntK.row xs)) (hm : xs.length ≤ 1048576) :
    Calls Try.prog 130 #[.slice A n c, .int .i64 x] w fun e w' => e = .returned (.int .i64 (findI (fun y => x == y) 0 xs)) ∧ w = w' := by
  subst hn
  go_enter Try.func130, Try.ntmps130
  go_wp2
  go_loop [8] (fun i => ∃ k : Nat, k ≤ xs.length ∧ i = .int .i64 k ∧ Hid (findI (fun y => x == y) 0 xs = findI (fun y => x == y) k (xs.drop k))) (fun i => xs.length - (intOf i).toNat)
  case atStart => exact ⟨0, Nat.zero_le _, rfl, rfl⟩
  case round =>
    obtain ⟨k, hk, rfl, hq⟩ := hrel
    by_cases hlt : k < xs.length
    · obtain ⟨a, rfl, hca⟩ := int_at ha hlt
      have i1 : (k : Int) < (xs.length : Int) := by omega
      rcases Bool.eq_false_or_eq_true (x == xs[k]) with hl | hl
      · have HA := Lib.hid (hq.out.trans (findI_hit (k := k) (i := k) (p := fun y => x == y) hlt hl))
        go_wp2
        go_ret
        exact ⟨ret_int HA.out.symm, rfl⟩
      · have HA := Lib.hid (hq.out.trans (findI_miss (k := k) (i := k) (p := fun y => x == y) hlt hl))
        go_wp2
        go_round
        case rel => exact ⟨k + 1, hlt, by go_num, HA.out⟩
        case measure => simp [intOf]; omega
    · obtain rfl : k = xs.length := by omega
      have HA := Lib.hid (hq.out.trans findI_end)
      go_wp2
      go_ret
      exact ⟨ret_int HA.out.symm, rfl⟩
theorem containsInt_any (A : Option Addr) (n c : Nat) (xs : List Int) (x : Int) (w : World) (hn : n = xs.length) (ha : Cells w A (IntK.row xs)) (hm : xs.length ≤ 1048576) :
    Calls Try.prog 85 #[.slice A n c, .int .i64 x] w fun e w' => e = .returned (.bool (hasB x xs)) ∧ w = w' := by
  have hR := Lib.hid (findI_mem x xs)
  have HN := Lib.hid hn
  clear hn
  go_enter Try.func85, Try.ntmps85
  go_wp2_with (go_at_call 130; refine (indexInt_any _ _ _ xs _ _ HN.out ha hm).mono ?_; rintro e w' ⟨rfl, rfl⟩)
  go_ret
  exact ⟨ret_bool hR.out, rfl⟩
theorem l1Has_any (A : Option Addr) (n c : Nat) (xs : List Int) (x : Int) (w : World) (hn : n = xs.length) (ha : Cells w A (IntK.row xs)) (hm : xs.length ≤ 1048576) :
    Calls Try.prog 87 #[.slice A n c, .int .i64 x] w fun e w' => e = .returned (.bool (hasB x xs)) ∧ w = w' := by
  subst hn
  go_enter Try.func87, Try.ntmps87
  go_wp2
  go_loop [5] (fun i => ∃ k : Nat, k ≤ xs.length ∧ i = .int .i64 k ∧ Hid (hasB x xs = hasB x (xs.drop k))) (fun i => xs.length - (intOf i).toNat)
  case atStart => exact ⟨0, Nat.zero_le _, rfl, rfl⟩
  case round =>
    obtain ⟨k, hk, rfl, hq⟩ := hrel
    by_cases hlt : k < xs.length
    · obtain ⟨a, rfl, hca⟩ := int_at ha hlt
      have i1 : (k : Int) < (xs.length : Int) := by omega
      by_cases hm : xs[k] = x
      · have ht : (xs[k] == x) = true := by simp [hm]
        have HA := Lib.hid (show hasB x xs = true by rw [hq.out, List.drop_eq_getElem_cons hlt, hasB_cons, hm]; simp)
        clear hm hq
        go_wp2
        go_ret
        exact ⟨ret_bool HA.out.symm, rfl⟩
      · have ht : (xs[k] == x) = false := by simp [hm]
        have HA := Lib.hid (show hasB x xs = hasB x (xs.drop (k + 1)) by rw [hq.out, List.drop_eq_getElem_cons hlt, hasB_cons, show (x == xs[k]) = false from by simp; exact fun e => hm e.symm]; rfl)
        clear hm hq
        go_wp2
        go_round
        case rel => exact ⟨k + 1, hlt, by go_num, HA.out⟩
        case measure => simp [intOf]; omega
    · obtain rfl : k = xs.length := by omega
      have HA := Lib.hid (show hasB x xs = false by rw [hq.out, List.drop_length]; rfl)
      go_wp2
      go_ret
      exact ⟨ret_bool HA.out.symm, rfl⟩
end Go.Proofs.Ytifahgdalgjgfaa
