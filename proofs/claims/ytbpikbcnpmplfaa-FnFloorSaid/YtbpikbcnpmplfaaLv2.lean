/- A number taken out of a list, in the program and in the reference. Conditions: the ranges named. -/
import Derived.Test.YtbpikbcnpmplfaaLv1
import Derived.Test.YtbpikbcnpmplfaaFlE2
import Derived.Lib.SliceRun
import Derived.Deep.DrawnRows
namespace Go.Proofs.Ytbpikbcnpmplfaa
open Go.RowKit
set_option linter.unusedVariables false
set_option linter.unusedSimpArgs false
theorem isN_any (x m : Int) (b : Nat) (w : World) (hp : w.cell? ⟨b, 0, none⟩ = some (.int .i64 m)) : Calls Try.prog 92 #[.int .i64 x, .pointer (some ⟨b, 0, none⟩)] w fun e w' => e = .returned (.bool (x == m)) ∧ w = w' := by
  go_enter Try.func92, Try.ntmps92
  go_wp2
  go_ret
  exact ⟨rfl, rfl⟩
theorem indexN_any (A : Option Addr) (n c : Nat) (xs : List Int) (b : Nat) (m : Int) (w : World) (hn : n = xs.length) (ha : Cells w A (IntK.row xs)) (hm : xs.length ≤ 1048576) (hp : w.cell? ⟨b, 0, none⟩ = some (.int .i64 m)) :
    Calls Try.prog 99 #[.slice A n c, .func (.func 92) #[] #[.pointer (some ⟨b, 0, none⟩)]] w fun e w' => e = .returned (.int .i64 (findI (fun x => x == m) 0 xs)) ∧ w = w' := by
  subst hn
  go_enter Try.func99, Try.ntmps99
  go_wp2
  go_loop [8] (fun i => ∃ k : Nat, k ≤ xs.length ∧ i = .int .i64 k ∧ Hid (findI (fun x => x == m) 0 xs = findI (fun x => x == m) k (xs.drop k))) (fun i => xs.length - (intOf i).toNat)
  case atStart => exact ⟨0, Nat.zero_le _, rfl, rfl⟩
  case round =>
    obtain ⟨k, hk, rfl, hq⟩ := hrel
    by_cases hlt : k < xs.length
    · obtain ⟨a, rfl, hc0⟩ := int_at ha hlt
      have i1 : (k : Int) < (xs.length : Int) := by omega
      have HH := Lib.hid (fun (h : (fun x : Int => x == m) xs[k] = true) => findI_hit (k := k) (i := k) (p := fun x => x == m) hlt h)
      have HMi := Lib.hid (fun (h : (fun x : Int => x == m) xs[k] = false) => findI_miss (k := k) (i := k) (p := fun x => x == m) hlt h)
      obtain ⟨x, hx⟩ : ∃ x, Hid (xs[k] = x) := ⟨_, Lib.hid rfl⟩
      rw [hx.out] at hc0 HH HMi
      rcases Bool.eq_false_or_eq_true (x == m) with hm2 | hm2
      · have HA := Lib.hid (hq.out.trans (HH.out hm2))
        clear hq HH HMi
        go_wp2_with (go_at_call 92; refine (isN_any x m b _ hp).mono ?_; rintro e w1 ⟨rfl, rfl⟩; rw [hm2])
        go_ret
        exact ⟨ret_int HA.out.symm, rfl⟩
      · have HA := Lib.hid (hq.out.trans (HMi.out hm2))
        clear hq HH HMi
        go_wp2_with (go_at_call 92; refine (isN_any x m b _ hp).mono ?_; rintro e w1 ⟨rfl, rfl⟩; rw [hm2])
        go_round
        case rel => exact ⟨k + 1, hlt, by go_num, HA⟩
        case measure => simp [intOf]; omega
    · obtain rfl : k = xs.length := by omega
      have HA := Lib.hid (hq.out.trans findI_end)
      go_wp2
      go_ret
      exact ⟨ret_int HA.out.symm, rfl⟩
/-- A list from which place k is being taken, up to place j. -/
def delK (k j : Nat) (xs : List Int) : List Int := (cutAt k xs).take j ++ xs.drop j
theorem cutAt_len {k : Nat} {xs : List Int} (h : k < xs.length) : (cutAt k xs).length = xs.length - 1 := by unfold cutAt; rw [List.length_append, List.length_take, List.length_drop]; omega
theorem delK_len {k j : Nat} {xs : List Int} (h : k < xs.length) (hj : j < xs.length) : (delK k j xs).length = xs.length := by unfold delK; rw [List.length_append, List.length_take, List.length_drop, cutAt_len h]; omega
theorem cutAt_get {k j : Nat} {xs : List Int} (h : k ≤ j) (hj : j + 1 < xs.length) : (cutAt k xs)[j]? = some xs[j + 1] := by
  unfold cutAt
  rw [List.getElem?_append_right (by rw [List.length_take]; omega), List.length_take, List.getElem?_drop, show k + 1 + (j - min k xs.length) = j + 1 by omega, List.getElem?_eq_getElem hj]
theorem delK_start {k : Nat} {xs : List Int} (h : k < xs.length) : delK k k xs = xs := by
  unfold delK cutAt
  rw [List.take_append_of_le_length (by rw [List.length_take]; omega), List.take_take, Nat.min_self, List.take_append_drop]
theorem delK_step {k j : Nat} {xs : List Int} (h : k ≤ j) (hj : j + 1 < xs.length) : (delK k j xs).set j xs[j + 1] = delK k (j + 1) xs := by
  have hl : ((cutAt k xs).take j).length = j := by rw [List.length_take, cutAt_len (by omega)]; omega
  unfold delK
  rw [List.set_append, if_neg (by omega), hl, Nat.sub_self, List.drop_eq_getElem_cons (show j < xs.length by omega), List.set_cons_zero, List.take_add_one, cutAt_get h hj]
  simp
theorem delK_get {k j i : Nat} {xs : List Int} (h : k < xs.length) (hj : j ≤ i) (hjl : j < xs.length) (hi : i < xs.length) : (delK k j xs)[i]'(by rw [delK_len h hjl]; exact hi) = xs[i] := by
  have hl : ((cutAt k xs).take j).length = j := by rw [List.length_take, cutAt_len h]; omega
  unfold delK
  rw [List.getElem_append_right (by omega), List.getElem_drop]
  congr 1
  omega
theorem delK_end {k : Nat} {xs : List Int} (h : k < xs.length) : (delK k (xs.length - 1) xs).take (xs.length - 1) = cutAt k xs := by
  have hl := cutAt_len h
  unfold delK
  rw [List.take_append_of_le_length (by rw [List.length_take]; omega), List.take_take, Nat.min_self, List.take_of_length_le (by omega)]
end Go.Proofs.Ytbpikbcnpmplfaa
