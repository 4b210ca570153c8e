/- Words for the walks of the laws on draws: a boxed struct below the heap's end, a big input, equal texts. Conditions: the ranges named. -/
import Derived.Test.YtgchbimjgdoifaaCu1
import Derived.Test.YtgchbimjgdoifaaMk
import Derived.Test.YtgchbimjgdoifaaDk4L
namespace Go.Proofs.Ytgchbimjgdoifaa
open Go.RowKit
set_option linter.unusedVariables false
set_option linter.unusedSimpArgs false
/-- A struct in a block that is there. -/
def BoxX (w : World) (q : Nat) (vs : List Value) : Prop := BoxF w q vs ∧ q < w.heap.size
theorem BoxX.step {w w' : World} {q : Nat} {vs : List Value} (h : BoxX w q vs) (hb : Below w.heap.size w w') : BoxX w' q vs := ⟨h.1.below hb h.2, Nat.lt_of_lt_of_le h.2 hb.size⟩
theorem BoxX.new (w : World) (vs : Array Value) (T : TypeId) : BoxX (w.alloc (.cells vs T)) w.heap.size vs.toList := ⟨BoxF.new' w vs T _ rfl, by simp⟩
theorem RdS.grow {w w' : World} {A : Option Addr} {c : Nat} {ss : List ByteArray} (h : RdS w.heap.size w A c ss) (hb : Below w.heap.size w w') : RdS w'.heap.size w' A c ss := RdS.step h hb
theorem OwS.rdX {lo : Nat} {w : World} {A : Option Addr} {c : Nat} {ss : List ByteArray} (h : OwS lo w.heap.size w A c ss) : RdS w.heap.size w A c ss := OwS.rd h
theorem BytesC.grow {w w' : World} {A : Option Addr} {n : Nat} (h : BytesC w A n) (hb : Below w.heap.size w w') : BytesC w' A n := h.block fun a _ hl => hb.block _ hl
theorem drew_exF {w : World} {m n : Nat} : ∃ k, (w.drewN m).drewN n = w.drewN k := ⟨m + n, World.drewN_drewN _ _ _⟩
theorem vBig_any (A : Option Addr) (n c : Nat) (w : World) : Calls Try.prog 22 #[.slice A n c] w fun e w' => e = .returned (.bool (decide (65536 < n))) ∧ Below w.heap.size w w' := by
  go_enter Try.func22, Try.ntmps22
  go_wp2
  go_ret
  exact ⟨ret_bool (by simp; try omega), Below.refl _ _⟩
set_option maxHeartbeats 1000000 in
theorem vTexts_same {B B' : Nat} {A A' : Option Addr} {c c' : Nat} {ss : List ByteArray} {w : World} (h : RdS B w A c ss) (h' : RdS B' w A' c' ss) :
    Calls Try.prog 26 #[.slice A ss.length c, .slice A' ss.length c'] w fun e w' => e = .returned (.bool true) ∧ Below w.heap.size w w' := by
  have ha := h.cells
  have hb := h'.cells
  have hn := h.2.2.1
  have hne : ((ss.length : Int) != (ss.length : Int)) = false := by simp
  clear h h'
  go_enter Try.func26, Try.ntmps26
  go_wp2
  go_loopw [5] (fun i wr => ∃ k : Nat, k ≤ ss.length ∧ i = .int .i64 k ∧ ∃ m, wr = w.drewN m) (fun i _ => ss.length - (intOf i).toNat)
  case atStart => exact ⟨0, Nat.zero_le _, rfl, 0, rfl⟩
  case round =>
    obtain ⟨k, hk, rfl, m, rfl⟩ := hrel
    by_cases hlt : k < ss.length
    · obtain ⟨a, rfl, hca⟩ := ha k (.string ss[k]) (strs_get hlt)
      obtain ⟨b, rfl, hcb⟩ := hb k (.string ss[k]) (strs_get hlt)
      have i1 : (k : Int) < (ss.length : Int) := by omega
      obtain ⟨s, hs⟩ : ∃ s, ss[k] = s := ⟨_, rfl⟩
      rw [hs] at hca hcb
      have hss := same_yes (rfl : s = s)
      clear hs
      go_wp2
      go_quiet (fail)
      go_wp2
      go_roundw
      case rel => exact ⟨k + 1, hlt, by go_num, by first | exact ⟨_, rfl⟩ | exact drew_exF⟩
      case measure => simp [intOf]; omega
    · obtain rfl : k = ss.length := by omega
      go_wp2
      go_ret
      exact ⟨rfl, below_drewN (Below.refl _ _) m⟩
end Go.Proofs.Ytgchbimjgdoifaa
