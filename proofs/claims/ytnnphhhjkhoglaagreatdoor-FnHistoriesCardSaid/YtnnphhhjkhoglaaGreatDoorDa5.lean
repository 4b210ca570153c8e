/- Lists of amendments in the words of objects; lists of amendments as arguments. Conditions: none. -/
import Derived.Test.YtnnphhhjkhoglaaGreatDoorDa3
import Derived.Test.YtnnphhhjkhoglaaGreatDoorOpn
import Derived.Test.YtnnphhhjkhoglaaGreatDoorOpen
namespace Go.Proofs.YtnnphhhjkhoglaaGreatDoor
open Go.RowKit
set_option linter.unusedVariables false
section
variable {B B' : Nat} {w : World} {A A' : Option Addr} {c c' : Nat} {ps : List Amd}
end
theorem szQs_le : ∀ (ps : List Amd) (l : Int), ¬ szQs ps l < 0 → szQs ps l ≤ l := by
  intro ps
  induction ps with
  | nil => intro l h; simp [szQs]
  | cons p ps ih =>
    intro l h
    simp only [szQs] at h ⊢
    by_cases hs : szF p.ws l < 0
    · rw [if_pos hs] at h; omega
    · rw [if_neg hs] at h ⊢
      have h1 := szF_leQ _ _ hs
      have := ih _ h
      omega
theorem szQ_of {ps : List Amd} {l : Int} (h : ¬ szQ ps l < 0) (hl : l ≤ 1048576) (h0 : FitQ0 ps) : FitQ ps ∧ 0 ≤ szQ ps l ∧ szQ ps l ≤ 1048576 := by
  refine ⟨szQ_fit h hl h0, by omega, ?_⟩
  unfold szQ at h ⊢
  by_cases hs : l - (ps.length : Int) < 0
  · rw [if_pos hs] at h; omega
  · rw [if_neg hs] at h ⊢
    have := szQs_le _ _ h
    omega
end Go.Proofs.YtnnphhhjkhoglaaGreatDoor
namespace Go.Proofs.YtnnphhhjkhoglaaGreatDoor
open Go.ChangeShapes Go.WideShapes Go.ChangeAt Go.RowKit Go.Joins
set_option linter.unusedVariables false
section
variable {H : Type} {enc : TypeId × Value → H} {w : World} {base : Nat} {spare : Nat → Bool} {held : Bool}
/-- An amendment with its cells. -/
def AmHR (w : World) : Kd (AmH × Amd) := ⟨4, fun x => AmHK.enc x.1, fun x => AmHK.len x.1, fun x => BearsQ w x.1 x.2 ∧ Fit0 x.2.ws⟩
end
end Go.Proofs.YtnnphhhjkhoglaaGreatDoor
