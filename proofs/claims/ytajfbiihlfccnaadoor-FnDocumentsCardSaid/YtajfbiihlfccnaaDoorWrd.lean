/- Words, of the program and of the reference: both return the same plain function. Conditions: the ranges named. -/
import Derived.Test.YtajfbiihlfccnaaDoorNum
namespace Go.Proofs.YtajfbiihlfccnaaDoor
open Go.RowKit
set_option linter.unusedVariables false

/-- A small letter. -/
def letterB (c : UInt8) : Bool := decide (97 ≤ c.toNat) && decide (c.toNat ≤ 122)
def lettersB (s : ByteArray) : Bool := s.data.toList.all letterB
/-- A word. -/
def wordB (s : ByteArray) : Bool := lettersB s && inB s.size 1 10
theorem take_byte (s : ByteArray) (k : Nat) (h : k < s.size) : s.data.toList.take (k + 1) = s.data.toList.take k ++ [s[k]] := by
  rw [List.take_succ_eq_append_getElem (by simpa using h)]; rfl
theorem letters_no {s : ByteArray} {k : Nat} (h : k < s.size) (hn : letterB s[k] = false) : wordB s = false := by
  have : lettersB s = false := by
    unfold lettersB
    rw [List.all_eq_false]
    exact ⟨s[k], Array.getElem_mem_toList h, by simp [hn]⟩
  unfold wordB; rw [this]; rfl
set_option maxHeartbeats 400000 in
theorem isWord_any (s : ByteArray) (w : World) (hs : s.size ≤ maxLen) : Calls Tryd.prog 71 #[.string s] w fun e w' => e = .returned (.bool (wordB s)) ∧ w = w' := by
  unfold maxLen at hs
  go_enter Tryd.func71, Tryd.ntmps71
  go_wp2
  go_loop [3] (fun i => ∃ k : Nat, k ≤ s.size ∧ i = .int .i64 k ∧ Hid ((s.data.toList.take k).all letterB = true)) (fun i => s.size - (intOf i).toNat)
  case atStart => exact ⟨0, Nat.zero_le _, rfl, rfl⟩
  case round =>
    obtain ⟨k, hk, rfl, hq⟩ := hrel
    by_cases hlt : k < s.size
    · have i1 : (k : Int) < (s.size : Int) := by omega
      rcases Bool.eq_false_or_eq_true (letterB s[k]) with hl | hl
      · have HA := Lib.hid (show (s.data.toList.take (k + 1)).all letterB = true by rw [take_byte s k hlt, List.all_append, hq.out]; simp [hl])
        have h2 : 97 ≤ (s[k].toNat : Int) ∧ (s[k].toNat : Int) ≤ 122 := by
          unfold letterB at hl; simp at hl; omega
        obtain ⟨h3, h4⟩ := h2
        clear hl
        go_wp2
        go_round
        case rel => exact ⟨k + 1, hlt, by go_num, HA.out⟩
        case measure => simp [intOf]; omega
      · have HR := Lib.hid (letters_no hlt hl)
        have h2 : (s[k].toNat : Int) < 97 ∨ 122 < (s[k].toNat : Int) := by
          unfold letterB at hl; simp at hl; omega
        clear hl
        rcases h2 with h2 | h2
        · go_wp2
          go_ret
          exact ⟨ret_bool HR.out.symm, rfl⟩
        · have h3 : ¬ (s[k].toNat : Int) < 97 := by omega
          go_wp2
          go_ret
          exact ⟨ret_bool HR.out.symm, rfl⟩
    · obtain rfl : k = s.size := by omega
      have HR := Lib.hid (show wordB s = inB s.size 1 10 by
        have h1 := hq.out
        rw [List.take_of_length_le (by simp)] at h1
        unfold wordB lettersB; rw [h1, Bool.true_and])
      go_wp2_with (go_at_call 70; refine (inside_any _ _ _ _).mono ?_; rintro e w' ⟨rfl, rfl⟩)
      go_ret
      exact ⟨ret_bool HR.out.symm, rfl⟩
set_option maxHeartbeats 400000 in
theorem l2Word_any (s : ByteArray) (w : World) (hs : s.size ≤ maxLen) : Calls Tryd.prog 84 #[.string s] w fun e w' => e = .returned (.bool (wordB s)) ∧ w = w' := by
  unfold maxLen at hs
  go_enter Tryd.func84, Tryd.ntmps84
  go_wp2
  go_loop [3] (fun i => ∃ k : Nat, k ≤ s.size ∧ i = .int .i64 k ∧ Hid ((s.data.toList.take k).all letterB = true)) (fun i => s.size - (intOf i).toNat)
  case atStart => exact ⟨0, Nat.zero_le _, rfl, rfl⟩
  case round =>
    obtain ⟨k, hk, rfl, hq⟩ := hrel
    by_cases hlt : k < s.size
    · have i1 : (k : Int) < (s.size : Int) := by omega
      rcases Bool.eq_false_or_eq_true (letterB s[k]) with hl | hl
      · have HA := Lib.hid (show (s.data.toList.take (k + 1)).all letterB = true by rw [take_byte s k hlt, List.all_append, hq.out]; simp [hl])
        have h2 : 97 ≤ (s[k].toNat : Int) ∧ (s[k].toNat : Int) ≤ 122 := by
          unfold letterB at hl; simp at hl; omega
        obtain ⟨h3, h4⟩ := h2
        clear hl
        go_wp2
        go_round
        case rel => exact ⟨k + 1, hlt, by go_num, HA.out⟩
        case measure => simp [intOf]; omega
      · have HR := Lib.hid (letters_no hlt hl)
        have h2 : (s[k].toNat : Int) < 97 ∨ 122 < (s[k].toNat : Int) := by
          unfold letterB at hl; simp at hl; omega
        clear hl
        rcases h2 with h2 | h2
        · go_wp2
          go_ret
          exact ⟨ret_bool HR.out.symm, rfl⟩
        · have h3 : ¬ (s[k].toNat : Int) < 97 := by omega
          go_wp2
          go_ret
          exact ⟨ret_bool HR.out.symm, rfl⟩
    · obtain rfl : k = s.size := by omega
      have HR := Lib.hid (show wordB s = inB s.size 1 10 by
        have h1 := hq.out
        rw [List.take_of_length_le (by simp)] at h1
        unfold wordB lettersB; rw [h1, Bool.true_and])
      go_wp2_with (go_at_call 72; refine (l1In_any _ _ _ _).mono ?_; rintro e w' ⟨rfl, rfl⟩)
      go_ret
      exact ⟨ret_bool HR.out.symm, rfl⟩
end Go.Proofs.YtajfbiihlfccnaaDoor
