/- Slices of strings, read and written: the copies, comparisons, sizes, marks of the laws. Conditions: the ranges named. -/
import Derived.Test.YtnnphhhjkhoglaaDoorProg
import Derived.Test.YtnnphhhjkhoglaaDoorKit
import Derived.Test.YtnnphhhjkhoglaaDoorCell
import Derived.WalkSpells
import Derived.Deep.AppendLies
namespace Go.Proofs.YtnnphhhjkhoglaaDoor
open Go.RowKit
set_option linter.unusedVariables false

def strs (ss : List ByteArray) : List Value := ss.map Value.string
theorem strs_len (ss : List ByteArray) : (strs ss).length = ss.length := by simp [strs]
theorem strs_get {ss : List ByteArray} {k : Nat} (h : k < ss.length) : (strs ss)[k]? = some (.string ss[k]) := by simp [strs, h]

set_option maxHeartbeats 400000 in
theorem eqStringS_any (A B : Option Addr) (c d : Nat) (ss ts : List ByteArray) (w : World) (ha : Cells w A (strs ss)) (hb : Cells w B (strs ts)) (hn : ss.length ≤ 1048576) (hm : ts.length ≤ 1048576) :
    Calls Tryd.prog 16 #[.slice A ss.length c, .slice B ts.length d] w fun e w' => e = .returned (.bool (decide (ss = ts))) ∧ Below w.heap.size w w' := by
  by_cases hl : ss.length = ts.length
  · have hne : ((ss.length : Int) != (ts.length : Int)) = false := by simp [hl]
    have HL := Lib.hid hl
    clear hl
    go_enter Tryd.func16, Tryd.ntmps16
    go_wp2
    go_loopw [5] (fun i wr => ∃ k : Nat, k ≤ ss.length ∧ i = .int .i64 k ∧ Hid (ss.take k = ts.take k) ∧ Below w.heap.size w wr) (fun i _ => ss.length - (intOf i).toNat)
    case atStart => exact ⟨0, Nat.zero_le _, rfl, rfl, Below.refl _ _⟩
    case round =>
      obtain ⟨k, hk, rfl, hq, hB⟩ := hrel
      by_cases hlt : k < ss.length
      · have hlt2 : k < ts.length := by have := HL.out; omega
        obtain ⟨a, rfl, hca⟩ := (ha.below hB) k (.string ss[k]) (strs_get hlt)
        obtain ⟨b, rfl, hcb⟩ := (hb.below hB) k (.string ts[k]) (strs_get hlt2)
        have i1 : (k : Int) < (ss.length : Int) := by omega
        have i2 : (k : Int) < (ts.length : Int) := by omega
        by_cases he : ss[k] = ts[k]
        · have ht := same_yes he
          have HE := Lib.hid he
          clear he
          go_wp2
          go_quiet (fail)
          go_wp2
          go_roundw
          case rel => exact ⟨k + 1, hlt, by go_num, by rw [List.take_succ_eq_append_getElem hlt, List.take_succ_eq_append_getElem hlt2, hq.out, HE.out]; rfl, below_drewN hB _⟩
          case measure => simp [intOf]; omega
        · have ht := same_no he
          have hd : decide (ss = ts) = false := decide_eq_false (fun e => he (by simp [e]))
          have HD := Lib.hid hd
          clear hd he
          go_wp2
          go_quiet (fail)
          go_wp2
          go_ret
          exact ⟨ret_bool HD.out.symm, below_drewN hB _⟩
      · have hd : decide (ss = ts) = true := decide_eq_true (by
          have h1 := hq.out
          rwa [List.take_of_length_le (by omega), List.take_of_length_le (by have := HL.out; omega)] at h1)
        have HD := Lib.hid hd
        clear hd
        go_wp2
        go_ret
        exact ⟨ret_bool HD.out.symm, hB⟩
  · have hne : ((ss.length : Int) != (ts.length : Int)) = true := by simp; omega
    have hd : decide (ss = ts) = false := decide_eq_false (fun e => hl (by rw [e]))
    have HD := Lib.hid hd
    clear hd hl
    go_enter Tryd.func16, Tryd.ntmps16
    go_wp2
    go_ret
    exact ⟨ret_bool HD.out.symm, Below.refl _ _⟩

/-! ### Sizes -/
def szAll : List ByteArray → Nat
  | [] => 0
  | s :: r => s.size + szAll r
theorem szAll_snoc (l : List ByteArray) (s : ByteArray) : szAll (l ++ [s]) = szAll l + s.size := by
  induction l with
  | nil => simp [szAll]
  | cons x l ih => simp [szAll, ih]; omega
theorem szAll_take_le (l : List ByteArray) (k : Nat) : szAll (l.take k) ≤ szAll l := by
  induction l generalizing k with
  | nil => simp [szAll]
  | cons x l ih =>
    cases k with
    | zero => simp [szAll]
    | succ k => simp [szAll]; exact ih k
/-- What szStringS returns. -/
def szF (ss : List ByteArray) (left : Int) : Int := if left - (ss.length : Int) - (szAll ss : Int) < 0 then -1 else left - (ss.length : Int) - (szAll ss : Int)
theorem szF_ok {ss : List ByteArray} {left : Int} (h : 0 ≤ szF ss left) : (ss.length : Int) + szAll ss ≤ left ∧ szF ss left = left - ss.length - szAll ss := by
  unfold szF at h ⊢
  split at h
  · omega
  · rename_i h1; rw [if_neg h1]; omega
theorem szF_neg {ss : List ByteArray} {left : Int} (h : szF ss left < 0) : szF ss left = -1 := by
  unfold szF at h ⊢
  split at h
  · rename_i h1; rw [if_pos h1]
  · omega
end Go.Proofs.YtnnphhhjkhoglaaDoor
