/- Lists of sections as arguments. Conditions: none. -/
import Derived.Test.YtfncfaamdedmjaaDoorOpn
import Derived.Test.YtfncfaamdedmjaaDoorSection
namespace Go.Proofs.YtfncfaamdedmjaaDoor
open Go.ChangeShapes Go.WideShapes Go.ChangeAt Go.RowKit Go.Joins
set_option linter.unusedVariables false
section
variable {H : Type} {enc : TypeId × Value → H} {w : World} {base : Nat} {spare : Nat → Bool} {held : Bool}
theorem section_dec {n : Nat} {cs : List Value} {y : DataW H × List MemPlace} (h : DataW.trod enc Tryd.prog w base spare held n 49 cs = some y) : ∃ x : Sec, SectionK.enc x = cs ∧ SectionK.fit x := by
  obtain ⟨hl, m, hf⟩ := struct_fields Tryd.underlying49 (by kernel_rfl) (by kernel_rfl) h
  obtain ⟨c0, y0, g0, t0⟩ := hf 0 _ rfl
  obtain ⟨c1, y1, g1, t1⟩ := hf 1 _ rfl
  obtain ⟨a0, e0, _, _⟩ := DataW.trod_int Tryd.underlying3 t0
  obtain ⟨a1, e1, _, f1⟩ := DataW.trod_string Tryd.underlying9 t1
  simp only [List.cons.injEq, and_true] at e0 e1
  subst e0 e1
  refine ⟨⟨a0, a1⟩, ?_, f1⟩
  apply List.ext_getElem?
  intro i
  match i with
  | 0 => exact g0.symm
  | 1 => exact g1.symm
  | i + 2 =>
    rw [List.getElem?_eq_none (by simp [SectionK]), List.getElem?_eq_none (by rw [hl]; simp)]
set_option maxRecDepth 100000 in
theorem sectionsIn {r : Reach} {b0 : Nat} {v : Value} {d : DataW H} {p : List MemPlace} (hv : Value.okWide Tryd.prog w r b0 32 v) (h : DataW.Trod enc Tryd.prog w base spare held 32 v d p) :
    ∃ (A : Option Addr) (c : Nat) (xs : List Sec), v = .slice A xs.length c ∧ (xs.length ≤ c ∧ Cells w A (SectionK.row xs) ∧ xs.length ≤ maxLen ∧ ∀ x ∈ xs, SectionK.fit x) := by
  obtain ⟨A, c, xs, rfl, h1⟩ := slice_in SectionK Tryd.underlying32 (by kernel_rfl) (fun _ _ _ h => section_dec h) hv h
  exact ⟨A, c, xs, rfl, h1⟩
end
end Go.Proofs.YtfncfaamdedmjaaDoor
