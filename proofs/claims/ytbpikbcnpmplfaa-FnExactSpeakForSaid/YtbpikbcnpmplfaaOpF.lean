/- Floors as arguments. Conditions: none. -/
import Derived.Test.YtbpikbcnpmplfaaOpn
import Derived.Test.YtbpikbcnpmplfaaFlr
namespace Go.Proofs.Ytbpikbcnpmplfaa
open Go.ChangeShapes Go.WideShapes Go.ChangeAt Go.RowKit Go.Joins
set_option linter.unusedVariables false
section
variable {H : Type} {enc : TypeId × Value → H} {w : World} {base : Nat} {spare : Nat → Bool} {held : Bool}
theorem int_dec {n : Nat} {cs : List Value} {y : DataW H × List MemPlace} (h : DataW.trod enc Try.prog w base spare held n 3 cs = some y) : ∃ x : Int, IntK.enc x = cs ∧ IntK.fit x := by
  obtain ⟨x, rfl, _, _⟩ := DataW.trod_int Try.underlying3 h
  exact ⟨x, rfl, trivial⟩
theorem share_dec {n : Nat} {cs : List Value} {y : DataW H × List MemPlace} (h : DataW.trod enc Try.prog w base spare held n 84 cs = some y) : ∃ x : Shr, ShareK.enc x = cs ∧ ShareK.fit x := by
  obtain ⟨hl, m, hf⟩ := struct_fields Try.underlying84 (by kernel_rfl) (by kernel_rfl) h
  obtain ⟨c0, y0, g0, t0⟩ := hf 0 _ rfl
  obtain ⟨c1, y1, g1, t1⟩ := hf 1 _ rfl
  obtain ⟨c2, y2, g2, t2⟩ := hf 2 _ rfl
  obtain ⟨a0, e0, _, _⟩ := DataW.trod_int Try.underlying3 t0
  obtain ⟨a1, e1, _, _⟩ := DataW.trod_int Try.underlying3 t1
  obtain ⟨a2, e2, _, _⟩ := DataW.trod_int Try.underlying3 t2
  simp only [List.cons.injEq, and_true] at e0 e1 e2
  subst e0 e1 e2
  refine ⟨⟨a0, a1, a2⟩, ?_, trivial⟩
  apply List.ext_getElem?
  intro i
  match i with
  | 0 => exact g0.symm
  | 1 => exact g1.symm
  | 2 => exact g2.symm
  | i + 3 =>
    rw [List.getElem?_eq_none (by simp [ShareK]), List.getElem?_eq_none (by rw [hl]; simp)]
set_option maxRecDepth 100000 in
theorem flrIn {r : Reach} {b0 : Nat} {v : Value} {d : DataW H} {p : List MemPlace} (hv : Value.okWide Try.prog w r b0 25 v) (h : DataW.Trod enc Try.prog w base spare held 25 v d p) :
    ∃ (A : Option Addr) (c : Nat) (D : Option Addr) (d : Nat) (f : Flr), v = .agg #[.int .i64 f.t, .int .i64 f.s, .int .i64 f.sp, .slice A f.wt.length c, .slice D f.sh.length d] ∧
      (f.wt.length ≤ c ∧ Cells w A (IntK.row f.wt) ∧ f.wt.length ≤ maxLen ∧ ∀ x ∈ f.wt, IntK.fit x) ∧ (f.sh.length ≤ d ∧ Cells w D (ShareK.row f.sh) ∧ f.sh.length ≤ maxLen ∧ ∀ x ∈ f.sh, ShareK.fit x) := by
  obtain ⟨cs, rfl, hl, m, hf⟩ := agg_open Try.underlying25 (by kernel_rfl) (by kernel_rfl) hv h
  obtain ⟨c0, y0, g0, t0⟩ := hf 0 _ rfl
  obtain ⟨c1, y1, g1, t1⟩ := hf 1 _ rfl
  obtain ⟨c2, y2, g2, t2⟩ := hf 2 _ rfl
  obtain ⟨c3, y3, g3, t3⟩ := hf 3 _ rfl
  obtain ⟨c4, y4, g4, t4⟩ := hf 4 _ rfl
  obtain ⟨a0, e0, _, _⟩ := DataW.trod_int Try.underlying3 t0
  obtain ⟨a1, e1, _, _⟩ := DataW.trod_int Try.underlying3 t1
  obtain ⟨a2, e2, _, _⟩ := DataW.trod_int Try.underlying3 t2
  obtain ⟨A, l, c, e3⟩ := slice_form Try.underlying22 t3
  obtain ⟨D, l', d, e4⟩ := slice_form Try.underlying23 t4
  simp only [List.cons.injEq, and_true] at e0 e1 e2 e3 e4
  subst e0 e1 e2 e3 e4
  obtain ⟨xs, rfl, h1, h2, h3, h4⟩ := slice_read IntK Try.underlying22 (by kernel_rfl) (fun _ _ _ h => int_dec h) t3
  obtain ⟨ys, rfl, h5, h6, h7, h8⟩ := slice_read ShareK Try.underlying23 (by kernel_rfl) (fun _ _ _ h => share_dec h) t4
  refine ⟨A, c, D, d, ⟨a0, a1, a2, xs, ys⟩, ?_, ⟨h1, h2, h3, h4⟩, ⟨h5, h6, h7, h8⟩⟩
  congr 1
  apply Array.ext'
  apply List.ext_getElem?
  intro i
  match i with
  | 0 => exact g0
  | 1 => exact g1
  | 2 => exact g2
  | 3 => exact g3
  | 4 => exact g4
  | i + 5 =>
    rw [List.getElem?_eq_none (by rw [hl]; simp), List.getElem?_eq_none (by simp)]
end
end Go.Proofs.Ytbpikbcnpmplfaa
