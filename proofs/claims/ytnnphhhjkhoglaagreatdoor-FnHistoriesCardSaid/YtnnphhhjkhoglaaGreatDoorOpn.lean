/- Arguments opened: what a reading of an argument says of memory, in the words of the walks. No program is named here. Conditions: none. -/
import Derived.Test.YtnnphhhjkhoglaaGreatDoorCell
import Derived.ProofKit
import Derived.OpenShut
import Derived.ShutString
import Derived.Carry
import Derived.Lib.SmallJoins
import Derived.Deep.Slices
import Derived.Deep.Fields
namespace Go.Proofs.YtnnphhhjkhoglaaGreatDoor
open Go.ChangeShapes Go.WideShapes Go.ChangeAt Go.RowKit Go.Joins
set_option linter.unusedVariables false

theorem rows_of {α : Type} {Q : Nat → α → Prop} : ∀ n, (∀ i, i < n → ∃ x, Q i x) → ∃ xs : List α, xs.length = n ∧ ∀ i (hi : i < xs.length), Q i xs[i]
  | 0, _ => ⟨[], rfl, fun i hi => by simp at hi⟩
  | n + 1, h => by
    obtain ⟨xs, hl, hx⟩ := rows_of n fun i hi => h i (by omega)
    obtain ⟨x, hq⟩ := h n (by omega)
    refine ⟨xs ++ [x], by simp [hl], fun i hi => ?_⟩
    rcases Nat.lt_or_ge i xs.length with h1 | h1
    · rw [List.getElem_append_left h1]; exact hx i h1
    · obtain rfl : i = n := by simp at hi; omega
      rw [List.getElem_append_right (by omega)]
      simpa [hl] using hq
theorem Kd.row_inv {α : Type} (K : Kd α) {xs : List α} {p : Nat} {u : Value} (h : (K.row xs)[p]? = some u) : ∃ i j, ∃ hi : i < xs.length, p = i * K.sz + j ∧ (K.enc xs[i])[j]? = some u := by
  induction xs generalizing p with
  | nil => simp [Kd.row] at h
  | cons x xs ih =>
    have hr : K.row (x :: xs) = K.enc x ++ K.row xs := rfl
    rw [hr] at h
    rcases Nat.lt_or_ge p (K.enc x).length with h1 | h1
    · rw [List.getElem?_append_left h1] at h
      exact ⟨0, p, by simp, by omega, h⟩
    · rw [List.getElem?_append_right h1, K.len] at h
      obtain ⟨i, j, hi, hp, hu⟩ := ih h
      rw [K.len] at h1
      exact ⟨i + 1, j, by simp; omega, by rw [Nat.succ_mul]; omega, hu⟩
section
variable {H : Type} {enc : TypeId × Value → H} {P : Program} {w : World} {base : Nat} {spare : Nat → Bool} {held : Bool}
/-- The fields of a struct, each of one cell. -/
theorem struct_fields {t : TypeId} {fs : Array Field} {fuel : Nat} {cs : List Value} {x : DataW H × List MemPlace} (hs : P.underlying t = some (.struct fs)) (hone : Deep.oneCellFields P fs = true) (hC : P.cellsOf t = fs.size)
    (h : DataW.trod enc P w base spare held fuel t cs = some x) : cs.length = fs.size ∧ ∃ m, ∀ (j : Nat) (f : Field), fs[j]? = some f → ∃ c y, cs[j]? = some c ∧ DataW.trod enc P w base spare held m f.type [c] = some y := by
  obtain ⟨xs, m, _, _, hl, hxl, hg⟩ := DataW.trod_struct hs h
  refine ⟨hl.trans hC, m, fun j f hj => ?_⟩
  obtain ⟨o, k⟩ := Deep.hone_of hone j f hj
  have h1 := hg j f hj
  rw [o, k] at h1
  have hjs : j < fs.size := (Array.getElem?_eq_some_iff.1 hj).1
  have hjc : j < cs.length := by rw [hl, hC]; exact hjs
  rw [List.drop_eq_getElem_cons hjc, List.take_succ_cons, List.take_zero] at h1
  exact ⟨cs[j], xs[j]'(by rw [hxl]; exact hjs), List.getElem?_eq_getElem hjc, h1.trans (List.getElem?_eq_getElem _)⟩
theorem agg_open {t : TypeId} {fs : Array Field} {r : Reach} {b0 : Nat} {v : Value} {d : DataW H} {p : List MemPlace} (hs : P.underlying t = some (.struct fs)) (hone : Deep.oneCellFields P fs = true) (hC : P.cellsOf t = fs.size)
    (hv : Value.okWide P w r b0 t v) (h : DataW.Trod enc P w base spare held t v d p) : ∃ cs : List Value, v = .agg cs.toArray ∧ cs.length = fs.size ∧ ∃ m, ∀ (j : Nat) (f : Field), fs[j]? = some f → ∃ c y, cs[j]? = some c ∧ DataW.trod enc P w base spare held m f.type [c] = some y := by
  obtain ⟨cs, rfl, hsz⟩ := okWide_struct hs hv
  obtain ⟨l⟩ := cs
  obtain ⟨fuel, hf⟩ := h
  obtain ⟨h1, h2⟩ := struct_fields hs hone hC (by simpa [Value.cells] using hf)
  exact ⟨l, rfl, h1, h2⟩
/-- A slice whose elements are of a kind. -/
theorem slice_read {α : Type} (K : Kd α) {t e : TypeId} {fuel : Nat} {A : Option Addr} {len cap : Nat} {x : DataW H × List MemPlace} (ht : P.underlying t = some (.slice e)) (hC : P.cellsOf e = K.sz)
    (hdec : ∀ (n : Nat) (cs : List Value) (y : DataW H × List MemPlace), DataW.trod enc P w base spare held n e cs = some y → ∃ x : α, K.enc x = cs ∧ K.fit x)
    (h : DataW.trod enc P w base spare held fuel t [.slice A len cap] = some x) :
    ∃ xs : List α, len = xs.length ∧ len ≤ cap ∧ Cells w A (K.row xs) ∧ xs.length ≤ maxLen ∧ ∀ x ∈ xs, K.fit x := by
  rcases Deep.open_slice ht h with ⟨hcs, _⟩ | ⟨a, len', cap', m, n, D, Pl, hcs, hb, hl, hm, hmm, hx, hi⟩
  · simp only [List.cons.injEq, Value.slice.injEq, and_true] at hcs
    obtain ⟨rfl, rfl, rfl⟩ := hcs
    exact ⟨[], rfl, Nat.le_refl _, Cells.nil_, by simp, by simp⟩
  · simp only [List.cons.injEq, Value.slice.injEq, and_true] at hcs
    obtain ⟨rfl, rfl, rfl⟩ := hcs
    have hlm : len ≤ m := by rw [hmm]; split <;> omega
    obtain ⟨xs, hlen, hxs⟩ := rows_of (Q := fun i (x : α) => w.cells? base (a.add (i * P.cellsOf e)) (P.cellsOf e) = some (K.enc x) ∧ K.fit x) len (fun i hil => by
      obtain ⟨cs', hc, hd⟩ := hi i (by omega)
      obtain ⟨x, rfl, hf⟩ := hdec _ _ _ hd
      exact ⟨x, hc, hf⟩)
    refine ⟨xs, hlen.symm, hl, fun p u hp => ?_, by omega, fun x hx => ?_⟩
    · obtain ⟨i, j, hil, rfl, hu⟩ := K.row_inv hp
      obtain ⟨_, hcl, hat⟩ := World.cells?_some (hxs i hil).1
      have hj : j < P.cellsOf e := by
        rw [hC, ← K.len xs[i]]
        exact (List.getElem?_eq_some_iff.1 hu).1
      refine ⟨a, rfl, ?_⟩
      rw [← add_add', ← hC, hat j hj, hu]
    · obtain ⟨i, hil, rfl⟩ := List.getElem_of_mem hx
      exact (hxs i hil).2
theorem slice_in {α : Type} (K : Kd α) {t e : TypeId} {r : Reach} {b0 : Nat} {v : Value} {d : DataW H} {p : List MemPlace} (ht : P.underlying t = some (.slice e)) (hC : P.cellsOf e = K.sz)
    (hdec : ∀ (n : Nat) (cs : List Value) (y : DataW H × List MemPlace), DataW.trod enc P w base spare held n e cs = some y → ∃ x : α, K.enc x = cs ∧ K.fit x)
    (hv : Value.okWide P w r b0 t v) (h : DataW.Trod enc P w base spare held t v d p) :
    ∃ (A : Option Addr) (cap : Nat) (xs : List α), v = .slice A xs.length cap ∧ xs.length ≤ cap ∧ Cells w A (K.row xs) ∧ xs.length ≤ maxLen ∧ ∀ x ∈ xs, K.fit x := by
  obtain ⟨A, len, cap, rfl⟩ := okWide_slice ht hv
  obtain ⟨fuel, hf⟩ := h
  obtain ⟨xs, rfl, h1, h2, h3, h4⟩ := slice_read K ht hC hdec (by simpa [Value.cells] using hf)
  exact ⟨A, cap, xs, rfl, h1, h2, h3, h4⟩
end
end Go.Proofs.YtnnphhhjkhoglaaGreatDoor
