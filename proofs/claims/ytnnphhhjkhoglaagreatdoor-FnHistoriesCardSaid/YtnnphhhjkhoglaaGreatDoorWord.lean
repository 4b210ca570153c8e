/- Words and lists of words, of the program and of the reference: both return the same plain function. Conditions: the ranges named. -/
import Derived.Test.YtnnphhhjkhoglaaGreatDoorStr2
namespace Go.Proofs.YtnnphhhjkhoglaaGreatDoor
open Go.RowKit
set_option linter.unusedVariables false

def inB (x a b : Int) : Bool := decide (a ≤ x) && decide (x ≤ b)
theorem inB_iff {x a b : Int} : inB x a b = true ↔ a ≤ x ∧ x ≤ b := by unfold inB; simp
theorem inside_any (x a b : Int) (w : World) : Calls Tryz.prog 51 #[.int .i64 x, .int .i64 a, .int .i64 b] w fun e w' => e = .returned (.bool (inB x a b)) ∧ w = w' := by
  go_enter Tryz.func51, Tryz.ntmps51
  go_wp2
  all_goals (go_ret; exact ⟨ret_bool (by unfold inB; simp; try omega), rfl⟩)
theorem l1In_any (x a b : Int) (w : World) : Calls Tryz.prog 58 #[.int .i64 x, .int .i64 a, .int .i64 b] w fun e w' => e = .returned (.bool (inB x a b)) ∧ w = w' := by
  go_enter Tryz.func58, Tryz.ntmps58
  go_wp2
  all_goals (go_ret; exact ⟨ret_bool (by unfold inB; simp; try omega), rfl⟩)

/-- A small letter. -/
def letterB (c : UInt8) : Bool := decide (97 ≤ c.toNat) && decide (c.toNat ≤ 122)
def lettersB (s : ByteArray) : Bool := s.data.toList.all letterB
/-- A word. -/
def wordB (s : ByteArray) : Bool := lettersB s && inB s.size 1 10
theorem take_byte (s : ByteArray) (k : Nat) (h : k < s.size) : s.data.toList.take (k + 1) = s.data.toList.take k ++ [s[k]] := by
  rw [List.take_succ_eq_append_getElem (by simpa using h)]; rfl
theorem letters_no {s : ByteArray} {k : Nat} (h : k < s.size) (hn : letterB s[k] = false) : wordB s = false := by
  have : lettersB s = false := by
    unfold lettersB
    rw [List.all_eq_false]
    exact ⟨s[k], Array.getElem_mem_toList h, by simp [hn]⟩
  unfold wordB; rw [this]; rfl
set_option maxHeartbeats 400000 in
theorem isWord_any (s : ByteArray) (w : World) (hs : s.size ≤ maxLen) : Calls Tryz.prog 69 #[.string s] w fun e w' => e = .returned (.bool (wordB s)) ∧ w = w' := by
  unfold maxLen at hs
  go_enter Tryz.func69, Tryz.ntmps69
  go_wp2
  go_loop [3] (fun i => ∃ k : Nat, k ≤ s.size ∧ i = .int .i64 k ∧ Hid ((s.data.toList.take k).all letterB = true)) (fun i => s.size - (intOf i).toNat)
  case atStart => exact ⟨0, Nat.zero_le _, rfl, rfl⟩
  case round =>
    obtain ⟨k, hk, rfl, hq⟩ := hrel
    by_cases hlt : k < s.size
    · have i1 : (k : Int) < (s.size : Int) := by omega
      rcases Bool.eq_false_or_eq_true (letterB s[k]) with hl | hl
      · have HA := Lib.hid (show (s.data.toList.take (k + 1)).all letterB = true by rw [take_byte s k hlt, List.all_append, hq.out]; simp [hl])
        have h2 : 97 ≤ (s[k].toNat : Int) ∧ (s[k].toNat : Int) ≤ 122 := by
          unfold letterB at hl; simp at hl; omega
        obtain ⟨h3, h4⟩ := h2
        clear hl
        go_wp2
        go_round
        case rel => exact ⟨k + 1, hlt, by go_num, HA.out⟩
        case measure => simp [intOf]; omega
      · have HR := Lib.hid (letters_no hlt hl)
        have h2 : (s[k].toNat : Int) < 97 ∨ 122 < (s[k].toNat : Int) := by
          unfold letterB at hl; simp at hl; omega
        clear hl
        rcases h2 with h2 | h2
        · go_wp2
          go_ret
          exact ⟨ret_bool HR.out.symm, rfl⟩
        · have h3 : ¬ (s[k].toNat : Int) < 97 := by omega
          go_wp2
          go_ret
          exact ⟨ret_bool HR.out.symm, rfl⟩
    · obtain rfl : k = s.size := by omega
      have HR := Lib.hid (show wordB s = inB s.size 1 10 by
        have h1 := hq.out
        rw [List.take_of_length_le (by simp)] at h1
        unfold wordB lettersB; rw [h1, Bool.true_and])
      go_wp2_with (go_at_call 51; refine (inside_any _ _ _ _).mono ?_; rintro e w' ⟨rfl, rfl⟩)
      go_ret
      exact ⟨ret_bool HR.out.symm, rfl⟩
set_option maxHeartbeats 400000 in
theorem l2Word_any (s : ByteArray) (w : World) (hs : s.size ≤ maxLen) : Calls Tryz.prog 66 #[.string s] w fun e w' => e = .returned (.bool (wordB s)) ∧ w = w' := by
  unfold maxLen at hs
  go_enter Tryz.func66, Tryz.ntmps66
  go_wp2
  go_loop [3] (fun i => ∃ k : Nat, k ≤ s.size ∧ i = .int .i64 k ∧ Hid ((s.data.toList.take k).all letterB = true)) (fun i => s.size - (intOf i).toNat)
  case atStart => exact ⟨0, Nat.zero_le _, rfl, rfl⟩
  case round =>
    obtain ⟨k, hk, rfl, hq⟩ := hrel
    by_cases hlt : k < s.size
    · have i1 : (k : Int) < (s.size : Int) := by omega
      rcases Bool.eq_false_or_eq_true (letterB s[k]) with hl | hl
      · have HA := Lib.hid (show (s.data.toList.take (k + 1)).all letterB = true by rw [take_byte s k hlt, List.all_append, hq.out]; simp [hl])
        have h2 : 97 ≤ (s[k].toNat : Int) ∧ (s[k].toNat : Int) ≤ 122 := by
          unfold letterB at hl; simp at hl; omega
        obtain ⟨h3, h4⟩ := h2
        clear hl
        go_wp2
        go_round
        case rel => exact ⟨k + 1, hlt, by go_num, HA.out⟩
        case measure => simp [intOf]; omega
      · have HR := Lib.hid (letters_no hlt hl)
        have h2 : (s[k].toNat : Int) < 97 ∨ 122 < (s[k].toNat : Int) := by
          unfold letterB at hl; simp at hl; omega
        clear hl
        rcases h2 with h2 | h2
        · go_wp2
          go_ret
          exact ⟨ret_bool HR.out.symm, rfl⟩
        · have h3 : ¬ (s[k].toNat : Int) < 97 := by omega
          go_wp2
          go_ret
          exact ⟨ret_bool HR.out.symm, rfl⟩
    · obtain rfl : k = s.size := by omega
      have HR := Lib.hid (show wordB s = inB s.size 1 10 by
        have h1 := hq.out
        rw [List.take_of_length_le (by simp)] at h1
        unfold wordB lettersB; rw [h1, Bool.true_and])
      go_wp2_with (go_at_call 58; refine (l1In_any _ _ _ _).mono ?_; rintro e w' ⟨rfl, rfl⟩)
      go_ret
      exact ⟨ret_bool HR.out.symm, rfl⟩

theorem notWord_any (s : ByteArray) (w : World) (hs : s.size ≤ maxLen) : Calls Tryz.prog 68 #[.string s] w fun e w' => e = .returned (.bool (!wordB s)) ∧ w = w' := by
  go_enter Tryz.func68, Tryz.ntmps68
  go_wp2_with (go_at_call 69; refine (isWord_any _ _ hs).mono ?_; rintro e w' ⟨rfl, rfl⟩)
  go_ret
  exact ⟨rfl, rfl⟩
set_option maxHeartbeats 400000 in
theorem indexNot_any (A : Option Addr) (c : Nat) (ss : List ByteArray) (w : World) (ha : Cells w A (strs ss)) (hn : ss.length ≤ 1048576) (hs : ∀ s ∈ ss, s.size ≤ maxLen) :
    Calls Tryz.prog 81 #[.slice A ss.length c, .func (.func 68) #[] #[]] w fun e w' => e = .returned (.int .i64 (findI (fun s => !wordB s) 0 ss)) ∧ w = w' := by
  go_enter Tryz.func81, Tryz.ntmps81
  go_wp2
  go_loop [8] (fun i => ∃ k : Nat, k ≤ ss.length ∧ i = .int .i64 k ∧ Hid (findI (fun s => !wordB s) 0 ss = findI (fun s => !wordB s) k (ss.drop k))) (fun i => ss.length - (intOf i).toNat)
  case atStart => exact ⟨0, Nat.zero_le _, rfl, rfl⟩
  case round =>
    obtain ⟨k, hk, rfl, hq⟩ := hrel
    by_cases hlt : k < ss.length
    · obtain ⟨a, rfl, hca⟩ := ha k (.string ss[k]) (strs_get hlt)
      have i1 : (k : Int) < (ss.length : Int) := by omega
      have hsz := hs _ (List.getElem_mem hlt)
      rcases Bool.eq_false_or_eq_true (wordB ss[k]) with hl | hl
      · have HA := Lib.hid (hq.out.trans (findI_miss hlt (by simp only [hl]; rfl)))
        go_wp2_with (go_at_call 68; refine (notWord_any _ _ hsz).mono ?_; rintro e w' ⟨rfl, rfl⟩)
        go_round
        case rel => exact ⟨k + 1, hlt, by go_num, HA.out⟩
        case measure => simp [intOf]; omega
      · have HA := Lib.hid (hq.out.trans (findI_hit (k := k) (i := k) (p := fun s => !wordB s) hlt (by show (!wordB ss[k]) = true; rw [hl]; rfl)))
        go_wp2_with (go_at_call 68; refine (notWord_any _ _ hsz).mono ?_; rintro e w' ⟨rfl, rfl⟩)
        go_ret
        exact ⟨ret_int HA.out.symm, rfl⟩
    · obtain rfl : k = ss.length := by omega
      have HA := Lib.hid (hq.out.trans findI_end)
      go_wp2
      go_ret
      exact ⟨ret_int HA.out.symm, rfl⟩
theorem containsNot_any (A : Option Addr) (c : Nat) (ss : List ByteArray) (w : World) (ha : Cells w A (strs ss)) (hn : ss.length ≤ 1048576) (hs : ∀ s ∈ ss, s.size ≤ maxLen) :
    Calls Tryz.prog 67 #[.slice A ss.length c, .func (.func 68) #[] #[]] w fun e w' => e = .returned (.bool (!ss.all wordB)) ∧ w = w' := by
  have hR := Lib.hid (show decide (0 ≤ findI (fun s => !wordB s) 0 ss) = !ss.all wordB by rw [findI_any, List.not_all_eq_any_not])
  go_enter Tryz.func67, Tryz.ntmps67
  go_wp2_with (go_at_call 81; refine (indexNot_any _ _ _ _ ha hn hs).mono ?_; rintro e w' ⟨rfl, rfl⟩)
  go_ret
  exact ⟨ret_bool hR.out, rfl⟩
/-- lo..hi words. -/
def wordsB (ss : List ByteArray) (lo hi : Int) : Bool := inB ss.length lo hi && ss.all wordB
theorem areWords_any (A : Option Addr) (c : Nat) (ss : List ByteArray) (lo hi : Int) (w : World) (ha : Cells w A (strs ss)) (hn : ss.length ≤ 1048576) (hs : ∀ s ∈ ss, s.size ≤ maxLen) :
    Calls Tryz.prog 52 #[.slice A ss.length c, .int .i64 lo, .int .i64 hi] w fun e w' => e = .returned (.bool (wordsB ss lo hi)) ∧ w = w' := by
  go_enter Tryz.func52, Tryz.ntmps52
  go_wp2_with (first | (go_at_call 51; refine (inside_any _ _ _ _).mono ?_; rintro e w' ⟨rfl, rfl⟩) | (go_at_call 67; refine (containsNot_any _ _ _ _ ha hn hs).mono ?_; rintro e w' ⟨rfl, rfl⟩))
  all_goals (go_ret; exact ⟨ret_bool (by unfold wordsB; simp [*]), rfl⟩)
theorem IsText_any (A : Option Addr) (c : Nat) (ss : List ByteArray) (w : World) (ha : Cells w A (strs ss)) (hn : ss.length ≤ 1048576) (hs : ∀ s ∈ ss, s.size ≤ maxLen) :
    Calls Tryz.prog 43 #[.slice A ss.length c] w fun e w' => e = .returned (.bool (wordsB ss 0 20)) ∧ w = w' := by
  go_enter Tryz.func43, Tryz.ntmps43
  go_wp2_with (go_at_call 52; refine (areWords_any _ _ _ _ _ _ ha hn hs).mono ?_; rintro e w' ⟨rfl, rfl⟩)
  go_ret
  exact ⟨rfl, rfl⟩
/-! ### The reference -/
set_option maxHeartbeats 400000 in
theorem l9Words_any (A : Option Addr) (c m : Nat) (ss : List ByteArray) (w : World) (ha : Cells w A (strs ss)) (hn : ss.length ≤ 1048576) (hs : ∀ s ∈ ss, s.size ≤ maxLen) (hm : m ≤ 100) :
    Calls Tryz.prog 48 #[.slice A ss.length c, .int .i64 m] w fun e w' => e = .returned (.bool (wordsB ss 0 m)) ∧ w = w' := by
  go_enter Tryz.func48, Tryz.ntmps48
  go_wp2
  go_loop [5] (fun i => ∃ k : Nat, k ≤ ss.length ∧ i = .int .i64 k ∧ Hid ((ss.take k).all wordB = true)) (fun i => ss.length - (intOf i).toNat)
  case atStart => exact ⟨0, Nat.zero_le _, rfl, rfl⟩
  case round =>
    obtain ⟨k, hk, rfl, hq⟩ := hrel
    by_cases hlt : k < ss.length
    · by_cases hlm : k ≤ m
      · obtain ⟨a, rfl, hca⟩ := ha k (.string ss[k]) (strs_get hlt)
        have i1 : (k : Int) < (ss.length : Int) := by omega
        have hsz := hs _ (List.getElem_mem hlt)
        rcases Bool.eq_false_or_eq_true (wordB ss[k]) with hl | hl
        · have HA := Lib.hid (show (ss.take (k + 1)).all wordB = true by rw [List.take_succ_eq_append_getElem hlt, List.all_append, hq.out]; simp [hl])
          go_wp2_with (go_at_call 66; refine (l2Word_any _ _ hsz).mono ?_; rintro e w' ⟨rfl, rfl⟩)
          go_round
          case rel => exact ⟨k + 1, hlt, by go_num, HA.out⟩
          case measure => simp [intOf]; omega
        · have HR := Lib.hid (show wordsB ss 0 m = false by
            unfold wordsB
            rw [show ss.all wordB = false from List.all_eq_false.2 ⟨_, List.getElem_mem hlt, by simp [hl]⟩, Bool.and_false])
          go_wp2_with (go_at_call 66; refine (l2Word_any _ _ hsz).mono ?_; rintro e w' ⟨rfl, rfl⟩)
          go_ret
          exact ⟨ret_bool HR.out.symm, rfl⟩
      · have HR := Lib.hid (show wordsB ss 0 m = false by
          unfold wordsB inB
          rw [show decide ((ss.length : Int) ≤ (m : Int)) = false by simp; omega, Bool.and_false, Bool.false_and])
        have hgt : ¬ (ss.length : Int) ≤ (m : Int) := by omega
        go_wp2
        go_ret
        exact ⟨ret_bool HR.out.symm, rfl⟩
    · obtain rfl : k = ss.length := by omega
      have HR := Lib.hid (show wordsB ss 0 m = decide (ss.length ≤ m) by
        have h1 := hq.out
        rw [List.take_length] at h1
        unfold wordsB inB; rw [h1, Bool.and_true]; simp)
      go_wp2
      all_goals (go_ret; exact ⟨ret_bool (by rw [HR.out]; try simp), rfl⟩)
theorem l9Text_any (A : Option Addr) (c : Nat) (ss : List ByteArray) (w : World) (ha : Cells w A (strs ss)) (hn : ss.length ≤ 1048576) (hs : ∀ s ∈ ss, s.size ≤ maxLen) :
    Calls Tryz.prog 21 #[.slice A ss.length c] w fun e w' => e = .returned (.bool (wordsB ss 0 20)) ∧ w = w' := by
  go_enter Tryz.func21, Tryz.ntmps21
  go_wp2_with (go_at_call 48; refine (l9Words_any _ _ 20 _ _ ha hn hs (by omega)).mono ?_; rintro e w' ⟨rfl, rfl⟩)
  go_ret
  exact ⟨rfl, rfl⟩
end Go.Proofs.YtnnphhhjkhoglaaGreatDoor
