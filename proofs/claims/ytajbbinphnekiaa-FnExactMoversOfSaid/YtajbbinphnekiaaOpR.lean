/- Lists of rules and of questions as arguments. Conditions: none. -/
import Derived.Test.YtajbbinphnekiaaOpn
import Derived.Test.YtajbbinphnekiaaRule
import Derived.Test.YtajbbinphnekiaaQuestion
namespace Go.Proofs.Ytajbbinphnekiaa
open Go.ChangeShapes Go.WideShapes Go.ChangeAt Go.RowKit Go.Joins
set_option linter.unusedVariables false
section
variable {H : Type} {enc : TypeId × Value → H} {w : World} {base : Nat} {spare : Nat → Bool} {held : Bool}
theorem question_dec {n : Nat} {cs : List Value} {y : DataW H × List MemPlace} (h : DataW.trod enc Try.prog w base spare held n 86 cs = some y) : ∃ x : Qst, QuestionK.enc x = cs ∧ QuestionK.fit x := by
  obtain ⟨hl, m, hf⟩ := struct_fields Try.underlying86 (by kernel_rfl) (by kernel_rfl) h
  obtain ⟨c0, y0, g0, t0⟩ := hf 0 _ rfl
  obtain ⟨c1, y1, g1, t1⟩ := hf 1 _ rfl
  obtain ⟨c2, y2, g2, t2⟩ := hf 2 _ rfl
  obtain ⟨a0, e0, _, _⟩ := DataW.trod_int Try.underlying3 t0
  obtain ⟨a1, e1, _, _⟩ := DataW.trod_int Try.underlying3 t1
  obtain ⟨a2, e2, _, _⟩ := DataW.trod_bool Try.underlying4 t2
  simp only [List.cons.injEq, and_true] at e0 e1 e2
  subst e0 e1 e2
  refine ⟨⟨a0, a1, a2⟩, ?_, trivial⟩
  apply List.ext_getElem?
  intro i
  match i with
  | 0 => exact g0.symm
  | 1 => exact g1.symm
  | 2 => exact g2.symm
  | i + 3 =>
    rw [List.getElem?_eq_none (by simp [QuestionK]), List.getElem?_eq_none (by rw [hl]; simp)]
theorem rule_dec {n : Nat} {cs : List Value} {y : DataW H × List MemPlace} (h : DataW.trod enc Try.prog w base spare held n 83 cs = some y) : ∃ x : Rul, RuleK.enc x = cs ∧ RuleK.fit x := by
  obtain ⟨hl, m, hf⟩ := struct_fields Try.underlying83 (by kernel_rfl) (by kernel_rfl) h
  obtain ⟨c0, y0, g0, t0⟩ := hf 0 _ rfl
  obtain ⟨c1, y1, g1, t1⟩ := hf 1 _ rfl
  obtain ⟨c2, y2, g2, t2⟩ := hf 2 _ rfl
  obtain ⟨c3, y3, g3, t3⟩ := hf 3 _ rfl
  obtain ⟨c4, y4, g4, t4⟩ := hf 4 _ rfl
  obtain ⟨c5, y5, g5, t5⟩ := hf 5 _ rfl
  obtain ⟨c6, y6, g6, t6⟩ := hf 6 _ rfl
  obtain ⟨a0, e0, _, _⟩ := DataW.trod_int Try.underlying3 t0
  obtain ⟨a1, e1, _, f1⟩ := DataW.trod_string Try.underlying9 t1
  obtain ⟨a2, e2, _, _⟩ := DataW.trod_int Try.underlying3 t2
  obtain ⟨a3, e3, _, _⟩ := DataW.trod_bool Try.underlying4 t3
  obtain ⟨a4, e4, _, _⟩ := DataW.trod_bool Try.underlying4 t4
  obtain ⟨a5, e5, _, _⟩ := DataW.trod_bool Try.underlying4 t5
  obtain ⟨a6, e6, _, _⟩ := DataW.trod_int Try.underlying3 t6
  simp only [List.cons.injEq, and_true] at e0 e1 e2 e3 e4 e5 e6
  subst e0 e1 e2 e3 e4 e5 e6
  refine ⟨⟨a0, a1, a2, a3, a4, a5, a6⟩, ?_, f1⟩
  apply List.ext_getElem?
  intro i
  match i with
  | 0 => exact g0.symm
  | 1 => exact g1.symm
  | 2 => exact g2.symm
  | 3 => exact g3.symm
  | 4 => exact g4.symm
  | 5 => exact g5.symm
  | 6 => exact g6.symm
  | i + 7 =>
    rw [List.getElem?_eq_none (by simp [RuleK]), List.getElem?_eq_none (by rw [hl]; simp)]
set_option maxRecDepth 100000 in
theorem questionsIn {r : Reach} {b0 : Nat} {v : Value} {d : DataW H} {p : List MemPlace} (hv : Value.okWide Try.prog w r b0 23 v) (h : DataW.Trod enc Try.prog w base spare held 23 v d p) :
    ∃ (A : Option Addr) (c : Nat) (xs : List Qst), v = .slice A xs.length c ∧ (xs.length ≤ c ∧ Cells w A (QuestionK.row xs) ∧ xs.length ≤ maxLen ∧ ∀ x ∈ xs, QuestionK.fit x) := by
  obtain ⟨A, c, xs, rfl, h1⟩ := slice_in QuestionK Try.underlying23 (by kernel_rfl) (fun _ _ _ h => question_dec h) hv h
  exact ⟨A, c, xs, rfl, h1⟩
set_option maxRecDepth 100000 in
theorem rulesIn {r : Reach} {b0 : Nat} {v : Value} {d : DataW H} {p : List MemPlace} (hv : Value.okWide Try.prog w r b0 22 v) (h : DataW.Trod enc Try.prog w base spare held 22 v d p) :
    ∃ (A : Option Addr) (c : Nat) (xs : List Rul), v = .slice A xs.length c ∧ (xs.length ≤ c ∧ Cells w A (RuleK.row xs) ∧ xs.length ≤ maxLen ∧ ∀ x ∈ xs, RuleK.fit x) := by
  obtain ⟨A, c, xs, rfl, h1⟩ := slice_in RuleK Try.underlying22 (by kernel_rfl) (fun _ _ _ h => rule_dec h) hv h
  exact ⟨A, c, xs, rfl, h1⟩
end
end Go.Proofs.Ytajbbinphnekiaa
