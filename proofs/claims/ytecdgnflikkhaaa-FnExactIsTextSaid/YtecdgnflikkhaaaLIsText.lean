/- The walk of the law on IsText: it returns true. Conditions: none. -/
import Derived.Test.YtecdgnflikkhaaaWord
import Derived.Test.YtecdgnflikkhaaaOpen
namespace Go.Proofs.Ytecdgnflikkhaaa
open Go.RowKit
set_option linter.unusedVariables false
namespace fnExactIsText
set_option maxHeartbeats 400000 in
theorem walk (A : Option Addr) (c : Nat) (ss : List ByteArray) (w : World) (hc : ss.length ≤ c) (ha : Cells w A (strs ss)) (hn : ss.length ≤ maxLen) (hs : ∀ s ∈ ss, s.size ≤ maxLen) :
    Calls Try.prog 3 #[.slice A ss.length c] w fun e w' => e = .returned (.bool true) ∧ Below w.heap.size w w' := by
  by_cases hz : szF ss 1048576 < 0
  · go_enter Try.func3, Try.ntmps3
    go_wp2_with (go_at_call 15; refine (szStringS_any _ _ _ _ _ ha hn hs (by omega) (by omega)).mono ?_; rintro e w' ⟨rfl, rfl⟩)
    go_ret
    exact ⟨rfl, Below.refl _ _⟩
  · have hl : ss.length ≤ 1048576 := by have := (szF_ok (Int.not_lt.1 hz)).1; omega
    go_enter Try.func3, Try.ntmps3
    go_wp2_with (go_at_call 15; refine (szStringS_any _ _ _ _ _ ha hn hs (by omega) (by omega)).mono ?_; rintro e w' ⟨rfl, rfl⟩)
    refine (toStringS_any A c ss w ha hl).mono ?_
    rintro e w1 ⟨rfl, own1, hb1⟩
    have c1 := Cells.of_own own1
    have a1 := ha.below hb1
    clear own1
    go_wp2_with fail
    refine (sIsText_any _ _ ss w1 c1 hl hs).mono ?_
    rintro e w' ⟨rfl, rfl⟩
    go_wp2_with fail
    refine (toStringS_any A c ss w1 a1 hl).mono ?_
    rintro e w2 ⟨rfl, own2, hb2⟩
    have c2 := Cells.of_own own2
    have a2 := a1.below hb2
    clear own2
    go_wp2_with fail
    refine (IsText_any _ _ ss w2 c2 hl hs).mono ?_
    rintro e w' ⟨rfl, rfl⟩
    go_wp2_with fail
    refine (toStringS_any A c ss w2 a2 hl).mono ?_
    rintro e w3 ⟨rfl, own3, hb3⟩
    have c3 := Cells.of_own own3
    have c2' := c2.below hb3
    clear own3
    go_wp2_with fail
    refine (eqStringS_any _ _ _ _ ss ss w3 c2' c3 hl hl).mono ?_
    rintro e w4 ⟨rfl, hb4⟩
    rw [decide_eq_true (rfl : ss = ss)]
    have hB := after (after (after hb1 hb2) hb3) hb4
    go_wp2
    go_ret
    exact ⟨rfl, hB⟩
end fnExactIsText
end Go.Proofs.Ytecdgnflikkhaaa
