/- Arguments opened: what a reading of an argument says of memory, in the words of the walks. Conditions: none. -/
import Derived.Test.YtnnphhhjkhoglaaGreatDoorAmd
import Derived.ProofKit
import Derived.OpenShut
import Derived.ShutString
import Derived.Carry
import Derived.Lib.SmallJoins
import Derived.SliceStrings
import Derived.Deep.Slices
namespace Go.Proofs.YtnnphhhjkhoglaaGreatDoor
open Go.ChangeShapes Go.WideShapes Go.ChangeAt Go.RowKit Go.Joins
set_option linter.unusedVariables false
section
variable {H : Type} {enc : TypeId × Value → H} {P : Program} {w : World} {base : Nat} {spare : Nat → Bool} {held : Bool}

/-- The cells of a slice of strings. -/
theorem strs_trod {t e : TypeId} {fuel : Nat} {A : Option Addr} {len cap : Nat} {x : DataW H × List MemPlace} (ht : P.underlying t = some (.slice e)) (he : P.underlying e = some .string) (hc : P.cellsOf e = 1)
    (h : DataW.trod enc P w base spare held fuel t [.slice A len cap] = some x) :
    ∃ ss : List ByteArray, len = ss.length ∧ len ≤ cap ∧ Cells w A (Go.Proofs.YtnnphhhjkhoglaaGreatDoor.strs ss) ∧ ss.length ≤ maxLen ∧ ∀ s ∈ ss, s.size ≤ maxLen := by
  rcases open_strings ht he hc h with ⟨hcs, hx⟩ | ⟨a, len', cap', ss, hcs, _, hl, hm, hz, hx, hcell, hws⟩
  · simp only [List.cons.injEq, Value.slice.injEq, and_true] at hcs
    obtain ⟨rfl, rfl, rfl⟩ := hcs
    exact ⟨[], rfl, Nat.le_refl _, Cells.nil_, by simp, by simp⟩
  · simp only [List.cons.injEq, Value.slice.injEq, and_true] at hcs
    obtain ⟨rfl, rfl, rfl⟩ := hcs
    have hlen : len ≤ ss.length := by rw [hz]; split <;> omega
    refine ⟨ss.take len, by rw [List.length_take]; omega, hl, fun i u hi => ⟨a, rfl, ?_⟩, by rw [List.length_take]; omega, fun s hs => hws s (List.mem_of_mem_take hs)⟩
    have hil : i < len := by
      rcases Nat.lt_or_ge i len with h1 | h1
      · exact h1
      · rw [List.getElem?_eq_none (by rw [strs_len, List.length_take]; omega)] at hi; cases hi
    rw [hcell i (by omega)]
    rw [strs_get (by rw [List.length_take]; omega)] at hi
    rw [← hi, List.getElem_take, List.getD_eq_getElem?_getD, List.getElem?_eq_getElem (by omega)]
    rfl
theorem strsIn {t e : TypeId} {r : Reach} {b0 : Nat} {v : Value} {d : DataW H} {p : List MemPlace} (ht : P.underlying t = some (.slice e)) (he : P.underlying e = some .string) (hc : P.cellsOf e = 1)
    (hv : Value.okWide P w r b0 t v) (h : DataW.Trod enc P w base spare held t v d p) :
    ∃ (A : Option Addr) (cap : Nat) (ss : List ByteArray), v = .slice A ss.length cap ∧ ss.length ≤ cap ∧ Cells w A (Go.Proofs.YtnnphhhjkhoglaaGreatDoor.strs ss) ∧ ss.length ≤ maxLen ∧ ∀ s ∈ ss, s.size ≤ maxLen := by
  obtain ⟨A, len, cap, rfl⟩ := okWide_slice ht hv
  obtain ⟨fuel, hf⟩ := h
  obtain ⟨ss, rfl, h1, h2, h3, h4⟩ := strs_trod ht he hc (by simpa [Value.cells] using hf)
  exact ⟨A, cap, ss, rfl, h1, h2, h3, h4⟩
/-- An amendment by value. -/
theorem amdIn {t te : TypeId} {f0 f1 f2 f3 : Field} {r : Reach} {b0 : Nat} {v : Value} {d : DataW H} {p : List MemPlace} (hs : P.underlying t = some (.struct #[f0, f1, f2, f3])) (hone : Deep.oneCellFields P #[f0, f1, f2, f3] = true) (hC : P.cellsOf t = 4)
    (h0 : P.underlying f0.type = some (.int .i64)) (h1 : P.underlying f1.type = some (.int .i64)) (h2 : P.underlying f2.type = some (.int .i64)) (h3 : P.underlying f3.type = some (.slice te)) (he : P.underlying te = some .string) (hc : P.cellsOf te = 1)
    (hv : Value.okWide P w r b0 t v) (h : DataW.Trod enc P w base spare held t v d p) :
    ∃ (A : Option Addr) (cap : Nat) (a : Amd), v = .agg #[.int .i64 a.k, .int .i64 a.p, .int .i64 a.n, .slice A a.ws.length cap] ∧ a.ws.length ≤ cap ∧ Cells w A (Go.Proofs.YtnnphhhjkhoglaaGreatDoor.strs a.ws) ∧ a.ws.length ≤ maxLen ∧ (∀ s ∈ a.ws, s.size ≤ maxLen) ∧
      (Lit.int .i64 a.k).wf = true ∧ (Lit.int .i64 a.p).wf = true ∧ (Lit.int .i64 a.n).wf = true := by
  obtain ⟨c0, c1, c2, c3, y0, y1, y2, y3, n, rfl, hd, hp, q0, q1, q2, q3⟩ := open_agg4 hs hone hC hv h
  obtain ⟨k, e0, _, w0⟩ := DataW.trod_int h0 q0
  obtain ⟨pp, e1, _, w1⟩ := DataW.trod_int h1 q1
  obtain ⟨m, e2, _, w2⟩ := DataW.trod_int h2 q2
  simp only [List.cons.injEq, and_true] at e0 e1 e2
  subst e0 e1 e2
  obtain ⟨A, len, cap, e3⟩ := slice_form h3 q3
  simp only [List.cons.injEq, and_true] at e3
  subst e3
  obtain ⟨ss, rfl, g1, g2, g3, g4⟩ := strs_trod h3 he hc q3
  exact ⟨A, cap, ⟨k, pp, m, ss⟩, rfl, g1, g2, g3, g4, w0, w1, w2⟩
end
end Go.Proofs.YtnnphhhjkhoglaaGreatDoor
