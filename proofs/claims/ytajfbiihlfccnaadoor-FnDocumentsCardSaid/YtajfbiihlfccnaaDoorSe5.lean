/- Sections in rows of a call's own; lists that are checked. Conditions: the ranges named. -/
import Derived.Test.YtajfbiihlfccnaaDoorSe4
import Derived.Test.YtajfbiihlfccnaaDoorIb
import Derived.Test.YtajfbiihlfccnaaDoorAgr
namespace Go.Proofs.YtajfbiihlfccnaaDoor
open Go.RowKit
set_option linter.unusedVariables false
set_option linter.unusedSimpArgs false
theorem elSection : ElT Tryd.prog 39 51 2 24 := ElT.mk' Tryd.underlying39 infoSection rfl (by omega) (by omega)
theorem section_one {xs : List Sec} : ∀ u ∈ SectionK.row xs, u.oneCell' = true := fun u hu => by
  obtain ⟨x, _, h⟩ := List.mem_flatMap.1 hu
  simp only [SectionK, List.mem_cons, List.not_mem_nil, or_false] at h
  rcases h with rfl | rfl <;> rfl
theorem takeS {α : Type} (K : Kd α) {w : World} {A : Option Addr} {xs : List α} {n : Nat} (h : Cells w A (K.row xs)) : Cells w A (K.row (xs.take n)) := fun i u hu => by
  refine h i u ?_
  rw [Kd.row_take, List.getElem?_take] at hu
  split at hu
  · exact hu
  · cases hu
theorem dropS {α : Type} (K : Kd α) {w : World} {A Q : Option Addr} {xs : List α} {n : Nat} (h : Cells w A (K.row xs)) (hQ : n < xs.length → Q = A.map (·.add (n * K.sz))) : Cells w Q (K.row (xs.drop n)) := fun i u hu => by
  have hi : n < xs.length := by
    rcases Nat.lt_or_ge n xs.length with h1 | h1
    · exact h1
    · rw [List.drop_eq_nil_of_le h1] at hu; simp [Kd.row] at hu
  rw [Kd.row_drop, List.getElem?_drop] at hu
  obtain ⟨ad, hO, hc⟩ := h _ u hu
  subst hO
  exact ⟨ad.add (n * K.sz), hQ hi, by rw [add_add']; exact hc⟩
theorem tolb_none {α : Type} {K : Kd α} {e : TypeId} {w w' : World} {xs : List α} {ok : Bool} (hx : xs = []) (ho : ok = false) (hb : Below w.heap.size w w') : ToLB K e w xs ok (.returned (.tuple #[.slice none 0 0, .bool false])) w' := by
  subst hx ho
  exact ⟨none, 0, rfl, ⟨World.ownsRow_nil _ _ _ _, (fun a ha => by cases ha), by simp, by simp⟩, hb⟩
theorem tolb_own {α : Type} {K : Kd α} {e : TypeId} {w w' : World} {xs ys : List α} {ok ok' : Bool} {O : Option Addr} {n oc : Nat} (h : w'.ownsRow w.heap.size e K.sz (.slice O n oc) n (K.row ys)) (hx : xs = ys) (hn : n = ys.length) (hm : ys.length ≤ 1048576) (hf : ∀ x ∈ ys, K.fit x) (ho : ok = ok') (hb : Below w.heap.size w w') : ToLB K e w xs ok (.returned (.tuple #[.slice O n oc, .bool ok'])) w' := by
  subst hx ho hn
  exact ⟨O, oc, rfl, Ow.mk h hm hf, hb⟩
theorem bmonoS {w W : World} {o : Obj} (h : Below (w.alloc o).heap.size (w.alloc o) W) : Below w.heap.size w W := ((Below.refl _ _).alloc (Nat.le_refl _) _).trans (h.mono (by simp))
/-- A list that is checked. -/
def ckL (ys : List Sec) : List Sec := if docB ys = true then ys else []
end Go.Proofs.YtajfbiihlfccnaaDoor
