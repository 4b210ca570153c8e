/- Voters as arguments. Conditions: none. -/
import Derived.Test.YtcojohcnkafgdaaOpn
import Derived.Test.YtcojohcnkafgdaaVtr
namespace Go.Proofs.Ytcojohcnkafgdaa
open Go.ChangeShapes Go.WideShapes Go.ChangeAt Go.RowKit Go.Joins
set_option linter.unusedVariables false
section
variable {H : Type} {enc : TypeId × Value → H} {w : World} {base : Nat} {spare : Nat → Bool} {held : Bool}
theorem int_dec {n : Nat} {cs : List Value} {y : DataW H × List MemPlace} (h : DataW.trod enc Try.prog w base spare held n 3 cs = some y) : ∃ x : Int, IntK.enc x = cs ∧ IntK.fit x := by
  obtain ⟨x, rfl, _, _⟩ := DataW.trod_int Try.underlying3 h
  exact ⟨x, rfl, trivial⟩
theorem proxy_dec {n : Nat} {cs : List Value} {y : DataW H × List MemPlace} (h : DataW.trod enc Try.prog w base spare held n 113 cs = some y) : ∃ x : Prx, ProxyK.enc x = cs ∧ ProxyK.fit x := by
  obtain ⟨hl, m, hf⟩ := struct_fields Try.underlying113 (by kernel_rfl) (by kernel_rfl) h
  obtain ⟨c0, y0, g0, t0⟩ := hf 0 _ rfl
  obtain ⟨c1, y1, g1, t1⟩ := hf 1 _ rfl
  obtain ⟨a0, e0, _, _⟩ := DataW.trod_int Try.underlying3 t0
  obtain ⟨a1, e1, _, _⟩ := DataW.trod_int Try.underlying3 t1
  simp only [List.cons.injEq, and_true] at e0 e1
  subst e0 e1
  refine ⟨⟨a0, a1⟩, ?_, trivial⟩
  apply List.ext_getElem?
  intro i
  match i with
  | 0 => exact g0.symm
  | 1 => exact g1.symm
  | i + 2 =>
    rw [List.getElem?_eq_none (by simp [ProxyK]), List.getElem?_eq_none (by rw [hl]; simp)]
set_option maxRecDepth 100000 in
theorem votersIn {r : Reach} {b0 : Nat} {v : Value} {d : DataW H} {p : List MemPlace} (hv : Value.okWide Try.prog w r b0 52 v) (h : DataW.Trod enc Try.prog w base spare held 52 v d p) :
    ∃ (A : Option Addr) (c : Nat) (D : Option Addr) (d : Nat) (f : Vtr), v = .agg #[.slice A f.ws.length c, .slice D f.ps.length d] ∧
      (f.ws.length ≤ c ∧ Cells w A (IntK.row f.ws) ∧ f.ws.length ≤ maxLen ∧ ∀ x ∈ f.ws, IntK.fit x) ∧ (f.ps.length ≤ d ∧ Cells w D (ProxyK.row f.ps) ∧ f.ps.length ≤ maxLen ∧ ∀ x ∈ f.ps, ProxyK.fit x) := by
  obtain ⟨cs, rfl, hl, m, hf⟩ := agg_open Try.underlying52 (by kernel_rfl) (by kernel_rfl) hv h
  obtain ⟨c3, y3, g3, t3⟩ := hf 0 _ rfl
  obtain ⟨c4, y4, g4, t4⟩ := hf 1 _ rfl
  obtain ⟨A, l, c, e3⟩ := slice_form Try.underlying22 t3
  obtain ⟨D, l', d, e4⟩ := slice_form Try.underlying50 t4
  simp only [List.cons.injEq, and_true] at e3 e4
  subst e3 e4
  obtain ⟨xs, rfl, h1, h2, h3, h4⟩ := slice_read IntK Try.underlying22 (by kernel_rfl) (fun _ _ _ h => int_dec h) t3
  obtain ⟨ys, rfl, h5, h6, h7, h8⟩ := slice_read ProxyK Try.underlying50 (by kernel_rfl) (fun _ _ _ h => proxy_dec h) t4
  refine ⟨A, c, D, d, ⟨xs, ys⟩, ?_, ⟨h1, h2, h3, h4⟩, ⟨h5, h6, h7, h8⟩⟩
  congr 1
  apply Array.ext'
  apply List.ext_getElem?
  intro i
  match i with
  | 0 => exact g3
  | 1 => exact g4
  | i + 2 =>
    rw [List.getElem?_eq_none (by rw [hl]; simp), List.getElem?_eq_none (by simp)]
end
end Go.Proofs.Ytcojohcnkafgdaa
