/- Lists of ints in the words of the laws' walks. Conditions: the ranges named. -/
import Derived.Test.YthohogimhijbdaaInts
namespace Go.Proofs.Ythohogimhijbdaa
open Go.RowKit
set_option linter.unusedVariables false
section
variable {B B' lo hi : Nat} {w : World} {A A' : Option Addr} {c c' : Nat} {xs : List Int}
theorem eqI_abs (h : Rd IntK B w A c xs) (k : Rd IntK B' w A' c' xs) : Calls Try.prog 18 #[.slice A xs.length c, .slice A' xs.length c'] w fun e w' => e = .returned (.bool true) ∧ Below w.heap.size w w' := by
  have h1 := eqIntS_any A A' c c' xs xs w h.cells k.cells h.2.2.1 h.2.2.1
  rw [decide_eq_true rfl] at h1
  exact h1
theorem markI_abs' (k : Nat) (kk : Int) (hkk : kk = (k : Int)) (h : Ow IntK 3 lo hi w A c xs) (hhi : hi ≤ w.heap.size) (hk0 : 0 < k) (hk : k ≤ 20000000) : Calls Try.prog 21 #[.slice A xs.length c, .int .i64 kk] w fun e w' => e = .returned (.int .i64 (kk + (xs.length : Int))) ∧ Ow IntK 3 lo hi w' A c (marksI k xs.length) ∧ Only lo hi w w' := by
  refine (markIntS_any lo hi A c k kk hkk xs w h hk).mono ?_
  rintro e w1 ⟨rfl, h1, h2, h3⟩
  exact ⟨rfl, h1, h2⟩
theorem heldI_abs' (k : Nat) (kk : Int) (hkk : kk = (k : Int)) {n : Nat} (h : Rd IntK B w A c (marksI k n)) (hk0 : 0 < k) (hk : k ≤ 20000000) : Calls Try.prog 22 #[.slice A n c, .int .i64 kk] w fun e w' => e = .returned (.int .i64 (kk + (n : Int))) ∧ Below w.heap.size w w' := by
  refine (heldIntS_yes A n c k B kk hkk w h hk).mono ?_
  rintro e w1 ⟨rfl, rfl⟩
  exact ⟨rfl, Below.refl _ _⟩
end
end Go.Proofs.Ythohogimhijbdaa
