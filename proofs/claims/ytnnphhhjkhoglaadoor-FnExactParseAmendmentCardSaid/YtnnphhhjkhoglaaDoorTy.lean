/- Blocks of cells of one type. No program is named here. Conditions: none. -/
import Derived.Test.YtnnphhhjkhoglaaDoorSetc2
namespace Go.Proofs.YtnnphhhjkhoglaaDoor
open Go.RowKit
set_option linter.unusedVariables false
/-- The block b holds cells of the type T. -/
def Ty (w : World) (b : Nat) (T : TypeId) : Prop := ∃ cs fr, w.heap[b]? = some (.cells cs T fr)
theorem Ty.lt {w : World} {b : Nat} {T : TypeId} (h : Ty w b T) : b < w.heap.size := by
  obtain ⟨cs, fr, h⟩ := h
  rcases Nat.lt_or_ge b w.heap.size with h1 | h1
  · exact h1
  · rw [Array.getElem?_eq_none h1] at h; cases h
theorem Ty.below {w w' : World} {b B : Nat} {T : TypeId} (h : Ty w b T) (hb : Below B w w') (hB : b < B) : Ty w' b T := by
  obtain ⟨cs, fr, h⟩ := h
  exact ⟨cs, fr, (hb.block b hB).trans h⟩
theorem Ty.set {w : World} {b : Nat} {T : TypeId} (h : Ty w b T) (p : Addr) (u : Value) : Ty (w.setCell p u) b T := by
  obtain ⟨cs, fr, h⟩ := h
  by_cases hp : b = p.block
  · subst hp
    refine ⟨if p.spot.isSome then cs else cs.setIfInBounds p.off u, fr, ?_⟩
    simp only [World.setCell, Array.getElem?_modify, if_pos, h, Option.map_some]
  · exact ⟨cs, fr, (heap_setCell_other w p b u hp).trans h⟩
theorem own_off_type {w : World} {lo e size n c g : Nat} {A : Option Addr} {xs : List Value} {cs : Array Value} {t : TypeId} {fr : Nat × Nat} (h : w.ownsRow lo e size (.slice A n c) n xs) (hb : w.heap[g]? = some (.cells cs t fr)) (hne : e ≠ t) : (Value.slice A n c).ownBlock ≠ some g := by
  rcases h.2 with ⟨hv, _⟩ | ⟨g1, cap, cur, hv, _, hh, _⟩
  · rw [hv]; simp [Value.ownBlock]
  · rw [hv]
    intro he
    obtain rfl : g1 = g := by simpa [Value.ownBlock] using he
    rw [hh] at hb
    injection hb with hb
    injection hb with _ ht
    exact hne ht
end Go.Proofs.YtnnphhhjkhoglaaDoor
