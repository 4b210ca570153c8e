/- Arguments opened: what a reading of an argument says of memory, in the words of the walks. Conditions: none. -/
import Derived.Test.YtecdgnflikkhaaaStr
import Derived.ProofKit
import Derived.OpenShut
import Derived.ShutString
import Derived.Carry
import Derived.Lib.SmallJoins
import Derived.SliceStrings
import Derived.Deep.Slices
namespace Go.Proofs.Ytecdgnflikkhaaa
open Go.ChangeShapes Go.WideShapes Go.ChangeAt Go.RowKit Go.Joins
set_option linter.unusedVariables false
section
variable {H : Type} {enc : TypeId × Value → H} {P : Program} {w : World} {base : Nat} {spare : Nat → Bool} {held : Bool}

/-- The cells of a slice of strings. -/
theorem strs_trod {t e : TypeId} {fuel : Nat} {A : Option Addr} {len cap : Nat} {x : DataW H × List MemPlace} (ht : P.underlying t = some (.slice e)) (he : P.underlying e = some .string) (hc : P.cellsOf e = 1)
    (h : DataW.trod enc P w base spare held fuel t [.slice A len cap] = some x) :
    ∃ ss : List ByteArray, len = ss.length ∧ len ≤ cap ∧ Cells w A (Go.Proofs.Ytecdgnflikkhaaa.strs ss) ∧ ss.length ≤ maxLen ∧ ∀ s ∈ ss, s.size ≤ maxLen := by
  rcases open_strings ht he hc h with ⟨hcs, hx⟩ | ⟨a, len', cap', ss, hcs, _, hl, hm, hz, hx, hcell, hws⟩
  · simp only [List.cons.injEq, Value.slice.injEq, and_true] at hcs
    obtain ⟨rfl, rfl, rfl⟩ := hcs
    exact ⟨[], rfl, Nat.le_refl _, Cells.nil_, by simp, by simp⟩
  · simp only [List.cons.injEq, Value.slice.injEq, and_true] at hcs
    obtain ⟨rfl, rfl, rfl⟩ := hcs
    have hlen : len ≤ ss.length := by rw [hz]; split <;> omega
    refine ⟨ss.take len, by rw [List.length_take]; omega, hl, fun i u hi => ⟨a, rfl, ?_⟩, by rw [List.length_take]; omega, fun s hs => hws s (List.mem_of_mem_take hs)⟩
    have hil : i < len := by
      rcases Nat.lt_or_ge i len with h1 | h1
      · exact h1
      · rw [List.getElem?_eq_none (by rw [strs_len, List.length_take]; omega)] at hi; cases hi
    rw [hcell i (by omega)]
    rw [strs_get (by rw [List.length_take]; omega)] at hi
    rw [← hi, List.getElem_take, List.getD_eq_getElem?_getD, List.getElem?_eq_getElem (by omega)]
    rfl
theorem strsIn {t e : TypeId} {r : Reach} {b0 : Nat} {v : Value} {d : DataW H} {p : List MemPlace} (ht : P.underlying t = some (.slice e)) (he : P.underlying e = some .string) (hc : P.cellsOf e = 1)
    (hv : Value.okWide P w r b0 t v) (h : DataW.Trod enc P w base spare held t v d p) :
    ∃ (A : Option Addr) (cap : Nat) (ss : List ByteArray), v = .slice A ss.length cap ∧ ss.length ≤ cap ∧ Cells w A (Go.Proofs.Ytecdgnflikkhaaa.strs ss) ∧ ss.length ≤ maxLen ∧ ∀ s ∈ ss, s.size ≤ maxLen := by
  obtain ⟨A, len, cap, rfl⟩ := okWide_slice ht hv
  obtain ⟨fuel, hf⟩ := h
  obtain ⟨ss, rfl, h1, h2, h3, h4⟩ := strs_trod ht he hc (by simpa [Value.cells] using hf)
  exact ⟨A, cap, ss, rfl, h1, h2, h3, h4⟩
end
end Go.Proofs.Ytecdgnflikkhaaa
