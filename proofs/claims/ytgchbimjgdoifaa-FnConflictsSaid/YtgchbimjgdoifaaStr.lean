/- Slices of strings, read and written: the copies, comparisons, sizes, marks of the laws. Conditions: the ranges named. -/
import Derived.Test.YtgchbimjgdoifaaProg
import Derived.Test.YtgchbimjgdoifaaKit
import Derived.Test.YtgchbimjgdoifaaCell
import Derived.WalkSpells
import Derived.Deep.AppendLies
namespace Go.Proofs.Ytgchbimjgdoifaa
open Go.RowKit
set_option linter.unusedVariables false

def strs (ss : List ByteArray) : List Value := ss.map Value.string
theorem strs_len (ss : List ByteArray) : (strs ss).length = ss.length := by simp [strs]
theorem strs_get {ss : List ByteArray} {k : Nat} (h : k < ss.length) : (strs ss)[k]? = some (.string ss[k]) := by simp [strs, h]

set_option maxHeartbeats 400000 in
theorem eqStringS_any (A B : Option Addr) (c d : Nat) (ss ts : List ByteArray) (w : World) (ha : Cells w A (strs ss)) (hb : Cells w B (strs ts)) (hn : ss.length ≤ 1048576) (hm : ts.length ≤ 1048576) :
    Calls Try.prog 14 #[.slice A ss.length c, .slice B ts.length d] w fun e w' => e = .returned (.bool (decide (ss = ts))) ∧ Below w.heap.size w w' := by
  by_cases hl : ss.length = ts.length
  · have hne : ((ss.length : Int) != (ts.length : Int)) = false := by simp [hl]
    have HL := Lib.hid hl
    clear hl
    go_enter Try.func14, Try.ntmps14
    go_wp2
    go_loopw [5] (fun i wr => ∃ k : Nat, k ≤ ss.length ∧ i = .int .i64 k ∧ Hid (ss.take k = ts.take k) ∧ Below w.heap.size w wr) (fun i _ => ss.length - (intOf i).toNat)
    case atStart => exact ⟨0, Nat.zero_le _, rfl, rfl, Below.refl _ _⟩
    case round =>
      obtain ⟨k, hk, rfl, hq, hB⟩ := hrel
      by_cases hlt : k < ss.length
      · have hlt2 : k < ts.length := by have := HL.out; omega
        obtain ⟨a, rfl, hca⟩ := (ha.below hB) k (.string ss[k]) (strs_get hlt)
        obtain ⟨b, rfl, hcb⟩ := (hb.below hB) k (.string ts[k]) (strs_get hlt2)
        have i1 : (k : Int) < (ss.length : Int) := by omega
        have i2 : (k : Int) < (ts.length : Int) := by omega
        by_cases he : ss[k] = ts[k]
        · have ht := same_yes he
          have HE := Lib.hid he
          clear he
          go_wp2
          go_quiet (fail)
          go_wp2
          go_roundw
          case rel => exact ⟨k + 1, hlt, by go_num, by rw [List.take_succ_eq_append_getElem hlt, List.take_succ_eq_append_getElem hlt2, hq.out, HE.out]; rfl, below_drewN hB _⟩
          case measure => simp [intOf]; omega
        · have ht := same_no he
          have hd : decide (ss = ts) = false := decide_eq_false (fun e => he (by simp [e]))
          have HD := Lib.hid hd
          clear hd he
          go_wp2
          go_quiet (fail)
          go_wp2
          go_ret
          exact ⟨ret_bool HD.out.symm, below_drewN hB _⟩
      · have hd : decide (ss = ts) = true := decide_eq_true (by
          have h1 := hq.out
          rwa [List.take_of_length_le (by omega), List.take_of_length_le (by have := HL.out; omega)] at h1)
        have HD := Lib.hid hd
        clear hd
        go_wp2
        go_ret
        exact ⟨ret_bool HD.out.symm, hB⟩
  · have hne : ((ss.length : Int) != (ts.length : Int)) = true := by simp; omega
    have hd : decide (ss = ts) = false := decide_eq_false (fun e => hl (by rw [e]))
    have HD := Lib.hid hd
    clear hd hl
    go_enter Try.func14, Try.ntmps14
    go_wp2
    go_ret
    exact ⟨ret_bool HD.out.symm, Below.refl _ _⟩

/-! ### Sizes -/
def szAll : List ByteArray → Nat
  | [] => 0
  | s :: r => s.size + szAll r
theorem szAll_snoc (l : List ByteArray) (s : ByteArray) : szAll (l ++ [s]) = szAll l + s.size := by
  induction l with
  | nil => simp [szAll]
  | cons x l ih => simp [szAll, ih]; omega
theorem szAll_take_le (l : List ByteArray) (k : Nat) : szAll (l.take k) ≤ szAll l := by
  induction l generalizing k with
  | nil => simp [szAll]
  | cons x l ih =>
    cases k with
    | zero => simp [szAll]
    | succ k => simp [szAll]; exact ih k
/-- What szStringS returns. -/
def szF (ss : List ByteArray) (left : Int) : Int := if left - (ss.length : Int) - (szAll ss : Int) < 0 then -1 else left - (ss.length : Int) - (szAll ss : Int)
theorem szF_ok {ss : List ByteArray} {left : Int} (h : 0 ≤ szF ss left) : (ss.length : Int) + szAll ss ≤ left ∧ szF ss left = left - ss.length - szAll ss := by
  unfold szF at h ⊢
  split at h
  · omega
  · rename_i h1; rw [if_neg h1]; omega
theorem szF_neg {ss : List ByteArray} {left : Int} (h : szF ss left < 0) : szF ss left = -1 := by
  unfold szF at h ⊢
  split at h
  · rename_i h1; rw [if_pos h1]
  · omega
set_option maxHeartbeats 400000 in
theorem szStringS_any (A : Option Addr) (c : Nat) (ss : List ByteArray) (left : Int) (w : World) (ha : Cells w A (strs ss)) (hn : ss.length ≤ maxLen) (hs : ∀ s ∈ ss, s.size ≤ maxLen) (h0 : 0 ≤ left) (h1 : left ≤ 1048576) :
    Calls Try.prog 8 #[.slice A ss.length c, .int .i64 left] w fun e w' => e = .returned (.int .i64 (szF ss left)) ∧ w = w' := by
  unfold maxLen at hn hs
  by_cases hl : left - (ss.length : Int) < 0
  · have HR := Lib.hid (show szF ss left = -1 by unfold szF; rw [if_pos (by omega)])
    go_enter Try.func8, Try.ntmps8
    go_wp2
    go_ret
    exact ⟨ret_int HR.out.symm, rfl⟩
  · go_enter Try.func8, Try.ntmps8
    go_wp2
    go_loop [1, 5] (fun l i => ∃ k : Nat, k ≤ ss.length ∧ i = .int .i64 k ∧ 0 ≤ left - (ss.length : Int) - (szAll (ss.take k) : Int) ∧ l = .int .i64 (left - (ss.length : Int) - (szAll (ss.take k) : Int))) (fun _ i => ss.length - (intOf i).toNat)
    case atStart => exact ⟨0, Nat.zero_le _, rfl, by simp [szAll]; omega, by simp [szAll]⟩
    case round =>
      obtain ⟨k, hk, rfl, hnn, rfl⟩ := hrel
      by_cases hlt : k < ss.length
      · obtain ⟨a, rfl, hca⟩ := ha k (.string ss[k]) (strs_get hlt)
        have hsz := hs _ (List.getElem_mem hlt)
        have HT := Lib.hid (show szAll (ss.take (k + 1)) = szAll (ss.take k) + ss[k].size by rw [List.take_succ_eq_append_getElem hlt, szAll_snoc])
        by_cases hneg : left - (ss.length : Int) - (szAll (ss.take k) : Int) - (ss[k].size : Int) < 0
        · have HR := Lib.hid (show szF ss left = -1 by unfold szF; rw [if_pos (by have := HT.out; have := szAll_take_le ss (k + 1); omega)])
          go_wp2
          go_ret
          exact ⟨ret_int HR.out.symm, rfl⟩
        · go_wp2
          go_round
          case rel => exact ⟨k + 1, hlt, by go_num, by rw [HT.out]; omega, by rw [HT.out]; go_num⟩
          case measure => simp [intOf]; omega
      · obtain rfl : k = ss.length := by omega
        have HR := Lib.hid (show szF ss left = left - (ss.length : Int) - (szAll ss : Int) by
          rw [List.take_length] at hnn
          unfold szF; rw [if_neg (by omega)])
        go_wp2
        go_ret
        exact ⟨ret_int HR.out.symm, rfl⟩
end Go.Proofs.Ytgchbimjgdoifaa
