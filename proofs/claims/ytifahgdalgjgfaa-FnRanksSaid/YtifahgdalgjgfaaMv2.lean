/- What the library's sorting and compacting leave of a row of the call's own. No program is named here. Conditions: none. -/
import Derived.Test.YtifahgdalgjgfaaInts
import Derived.Sort.Row
import Derived.Sort.Grow
namespace Go.Proofs.Ytifahgdalgjgfaa
open Go.RowKit
set_option linter.unusedVariables false
theorem own_put {w : World} {base n oc g : Nat} {T : TypeId} {xs ys : List Int} (h : w.ownsRow base T 1 (.slice (some ⟨g, 0, none⟩) n oc) n (IntK.row xs)) (hy : ys.length = n) (q : Nat) :
    (Go.Sort.putRow (Value.int .i64) (Go.Sort.ahead w q) g 0 ys.toArray).ownsRow base T 1 (.slice (some ⟨g, 0, none⟩) n oc) n (IntK.row ys) ∧ Below base w (Go.Sort.putRow (Value.int .i64) (Go.Sort.ahead w q) g 0 ys.toArray) := by
  obtain ⟨hl, h | ⟨g', cap, cur, hv, hb, hg, hn, hc, hs, ht⟩⟩ := h
  · simp at h
  · simp only [Value.slice.injEq, Option.some.injEq, true_and] at hv
    obtain ⟨hgg, rfl⟩ := hv
    have hgg2 : g = g' := by injection hgg
    subst hgg2
    refine ⟨⟨by rw [intK_row, List.length_map, hy]; omega, .inr ⟨g, oc, Go.Sort.putCells (Value.int .i64) 0 ys.toArray cur, rfl, hb, ?_, hn, hc, ?_, ?_⟩⟩, ⟨rfl, rfl, rfl, by simp, fun k hk => ?_⟩⟩
    · simp [Go.Sort.putRow, Go.Sort.mapBlock, Array.getElem?_modify, hg, Go.Sort.onCells]
    · simp [Go.Sort.putCells, hs]
    · rw [intK_row]
      apply List.ext_getElem?
      intro i
      rw [List.getElem?_take, List.getElem?_map]
      by_cases hi : i < n
      · rw [if_pos (by omega)]
        have h1 : i < cur.size := by omega
        have h2 : i < ys.length := by omega
        simp [Go.Sort.putCells, h1, h2]
      · rw [if_neg (by omega), List.getElem?_eq_none (by omega)]
        rfl
    · simp only [Go.Sort.putRow, Go.Sort.mapBlock, Array.getElem?_modify]
      rw [if_neg (by omega)]
      rfl
theorem own_grow {w : World} {base size n : Nat} {T : TypeId} {v : Value} {xs : List Value} (h : w.ownsRow base T size v n xs) (hb : base ≤ w.heap.size) (os : Array Obj) : (Go.Sort.grow w os).ownsRow base T size v n xs ∧ Below base w (Go.Sort.grow w os) := by
  have hB : Below w.heap.size w (Go.Sort.grow w os) := ⟨rfl, rfl, rfl, by simp [Go.Sort.grow], fun k hk => by simp only [Go.Sort.grow]; rw [Array.getElem?_append_left hk]⟩
  exact ⟨own_keep h hB, hB.mono hb⟩
theorem holds_own {w : World} {base n oc g : Nat} {T : TypeId} {xs : List Int} (h : w.ownsRow base T 1 (.slice (some ⟨g, 0, none⟩) n oc) n (IntK.row xs)) : Go.Sort.Holds (Value.int .i64) w g 0 xs.toArray := fun j hj => by
  have hj' : j < xs.length := by simpa using hj
  refine ⟨?_, ?_⟩
  · obtain ⟨ad, e, hc⟩ := int_at (Cells.of_own h) hj'
    injection e with e
    subst e
    rw [add_head] at hc
    rw [Nat.zero_add, hc]
    simp [hj']
  · exact h.frozenAt _
end Go.Proofs.Ytifahgdalgjgfaa
