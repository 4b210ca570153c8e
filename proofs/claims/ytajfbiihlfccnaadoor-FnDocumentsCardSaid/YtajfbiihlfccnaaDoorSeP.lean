/- The plain laws of sections cut out, added, shifted; the laws' own comparison. Conditions: the ranges named. -/
import Derived.Test.YtajfbiihlfccnaaDoorSe5
namespace Go.Proofs.YtajfbiihlfccnaaDoor
open Go.RowKit
set_option linter.unusedVariables false
set_option linter.unusedSimpArgs false
theorem rBig_any (A : Option Addr) (n c : Nat) (w : World) : Calls Tryd.prog 26 #[.slice A n c] w fun e w' => e = .returned (.bool (decide (65536 < n))) ∧ Below w.heap.size w w' := by
  go_enter Tryd.func26, Tryd.ntmps26
  go_wp2
  go_ret
  exact ⟨ret_bool (by simp; try omega), Below.refl _ _⟩
set_option maxHeartbeats 1000000 in
theorem rSections_same {B B' : Nat} {A A' : Option Addr} {c c' : Nat} {xs : List Sec} {w : World} (h : Rd SectionK B w A c xs) (h' : Rd SectionK B' w A' c' xs) :
    Calls Tryd.prog 38 #[.slice A xs.length c, .slice A' xs.length c'] w fun e w' => e = .returned (.bool true) ∧ Below w.heap.size w w' := by
  have ha := h.cells
  have hb := h'.cells
  have hn := h.2.2.1
  have hne : ((xs.length : Int) != (xs.length : Int)) = false := by simp
  clear h h'
  go_enter Tryd.func38, Tryd.ntmps38
  go_wp2
  go_loopw [5] (fun i wr => ∃ k : Nat, k ≤ xs.length ∧ i = .int .i64 k ∧ ∃ m, wr = w.drewN m) (fun i _ => xs.length - (intOf i).toNat)
  case atStart => exact ⟨0, Nat.zero_le _, rfl, 0, rfl⟩
  case round =>
    obtain ⟨k, hk, rfl, m, rfl⟩ := hrel
    by_cases hlt : k < xs.length
    · obtain ⟨a, rfl, hc0, hc1⟩ := section_at ha hlt
      obtain ⟨b, rfl, hd0, hd1⟩ := section_at hb hlt
      have i1 : (k : Int) < (xs.length : Int) := by omega
      obtain ⟨x, hx⟩ : ∃ x, xs[k] = x := ⟨_, rfl⟩
      rw [hx] at hc0 hc1 hd0 hd1
      clear hx
      go_wp2
      go_quiet (fail)
      go_wp2
      go_roundw
      case rel => exact ⟨k + 1, hlt, by go_num, by first | exact ⟨_, rfl⟩ | exact ⟨_, World.drewN_drewN _ _ _⟩⟩
      case measure => simp [intOf]; omega
    · obtain rfl : k = xs.length := by omega
      go_wp2
      go_ret
      exact ⟨rfl, below_drewN (Below.refl _ _) m⟩
/-! ### The plain law -/
end Go.Proofs.YtajfbiihlfccnaaDoor
