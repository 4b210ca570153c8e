/- Objects in memory, in the words in which the laws' walks carry them from call to call: a slice that is read, a slice that a call made (its blocks lie in a range of numbers), a boxed struct. Conditions: none. -/
import Derived.Test.YtfncfaamdedmjaaDoorStr
namespace Go.Proofs.YtfncfaamdedmjaaDoor
open Go.RowKit
set_option linter.unusedVariables false

/-- Only blocks lo .. hi - 1, and what is new, have turned. -/
structure Only (lo hi : Nat) (w w' : World) : Prop where
  os : w'.os = w.os
  tape : w'.tape = w.tape
  output : w'.output = w.output
  size : w.heap.size ≤ w'.heap.size
  block : ∀ k, k < w.heap.size → k < lo ∨ hi ≤ k → w'.heap[k]? = w.heap[k]?
theorem Only.of_below {lo hi : Nat} {w w' : World} (h : Below w.heap.size w w') : Only lo hi w w' := ⟨h.os, h.tape, h.output, h.size, fun k hk _ => h.block k hk⟩
theorem Only.trans {lo hi : Nat} {w w1 w2 : World} (h : Only lo hi w w1) (k : Only lo hi w1 w2) : Only lo hi w w2 :=
  ⟨k.os.trans h.os, k.tape.trans h.tape, k.output.trans h.output, Nat.le_trans h.size k.size, fun i hi ho => (k.block i (Nat.lt_of_lt_of_le hi h.size) ho).trans (h.block i hi ho)⟩
theorem Only.below {lo hi : Nat} {w w' : World} (h : Only lo hi w w') (hl : lo ≤ w.heap.size) : Below lo w w' := ⟨h.os, h.tape, h.output, h.size, fun k hk => h.block k (Nat.lt_of_lt_of_le hk hl) (.inl hk)⟩
theorem Only.of_grown {lo hi : Nat} {w w' : World} {row : Option Nat} (h : w.grownBy w' row) (hr : ∀ g, row = some g → lo ≤ g ∧ g < hi) : Only lo hi w w' :=
  ⟨h.os, h.tape, h.output, h.size, fun k hk ho => h.block k hk (fun e => by have := hr k e.symm; omega)⟩
theorem Only.mono {lo hi lo' hi' : Nat} {w w' : World} (h : Only lo hi w w') (h1 : lo' ≤ lo) (h2 : hi ≤ hi') : Only lo' hi' w w' := ⟨h.os, h.tape, h.output, h.size, fun k hk ho => h.block k hk (by omega)⟩

/-- The words are not too many and not too long for a machine. -/
def Fit (ss : List ByteArray) : Prop := ss.length ≤ 1048576 ∧ ∀ s ∈ ss, s.size ≤ maxLen
/-- The same, of an argument of which nothing is known yet. -/
def Fit0 (ss : List ByteArray) : Prop := ss.length ≤ maxLen ∧ ∀ s ∈ ss, s.size ≤ maxLen
theorem Fit.weak {ss : List ByteArray} (h : Fit ss) : Fit0 ss := ⟨Nat.le_trans h.1 (by unfold maxLen; omega), h.2⟩
/-- Cells that are read, all in blocks below B. -/
def CellsB (B : Nat) (w : World) (A : Option Addr) (xs : List Value) : Prop := ∀ (i : Nat) (u : Value), xs[i]? = some u → ∃ ad, A = some ad ∧ ad.block < B ∧ w.cell? (ad.add i) = some u
theorem CellsB.cells {B : Nat} {w : World} {A : Option Addr} {xs : List Value} (h : CellsB B w A xs) : Cells w A xs := fun i u hi => by
  obtain ⟨ad, h1, _, h2⟩ := h i u hi
  exact ⟨ad, h1, h2⟩
theorem CellsB.of_cells {w : World} {A : Option Addr} {xs : List Value} (h : Cells w A xs) : CellsB w.heap.size w A xs := fun i u hi => by
  obtain ⟨ad, h1, h2⟩ := h i u hi
  exact ⟨ad, h1, by have := World.block_lt_of_cell? _ _ h2; rwa [block_add] at this, h2⟩
theorem CellsB.below {B B' : Nat} {w w' : World} {A : Option Addr} {xs : List Value} (h : CellsB B w A xs) (hb : Below B' w w') (hB : B ≤ B') : CellsB B w' A xs := fun i u hi => by
  obtain ⟨ad, h1, h2, h3⟩ := h i u hi
  exact ⟨ad, h1, h2, (hb.cell (by rw [block_add]; omega)).trans h3⟩
/-- The blocks of what a call made lie below hi. -/
def Under (hi : Nat) (A : Option Addr) : Prop := ∀ a, A = some a → a.block < hi
theorem own_only {w w' : World} {lo hi lo' hi' : Nat} {e : TypeId} {size n c : Nat} {A : Option Addr} {xs : List Value} (h : w.ownsRow lo e size (.slice A n c) n xs) (hu : Under hi A) (ho : Only lo' hi' w w') (hd : hi ≤ lo' ∨ hi' ≤ lo) : w'.ownsRow lo e size (.slice A n c) n xs := by
  have hl := h.lt
  obtain ⟨h1, h2⟩ := h
  refine ⟨h1, ?_⟩
  rcases h2 with h2 | ⟨g, cap, cur, hv, hg, hh, r⟩
  · exact .inl h2
  · obtain ⟨rfl, _, rfl⟩ : A = some ⟨g, 0, none⟩ ∧ n = n ∧ c = cap := by simpa using hv
    have h3 := hl g rfl
    have h4 := hu _ rfl
    exact .inr ⟨g, c, cur, rfl, hg, (ho.block g h3.2 (by simp at h4; omega)).trans hh, r⟩
theorem own_under {w w' : World} {lo hi B : Nat} {e : TypeId} {size n c : Nat} {A : Option Addr} {xs : List Value} (h : w.ownsRow lo e size (.slice A n c) n xs) (hu : Under hi A) (hb : Below B w w') (hB : hi ≤ B) : w'.ownsRow lo e size (.slice A n c) n xs := by
  refine own_only h hu (lo' := B) (hi' := w.heap.size) ⟨hb.os, hb.tape, hb.output, hb.size, fun k hk ho => ?_⟩ (.inl hB)
  rcases ho with ho | ho
  · exact hb.block k ho
  · omega
theorem Under.own {w : World} {lo : Nat} {e : TypeId} {size n c : Nat} {A : Option Addr} {xs : List Value} (h : w.ownsRow lo e size (.slice A n c) n xs) : Under w.heap.size A := fun a ha => by
  subst ha
  exact (h.lt a.block rfl).2
theorem own_cap {w : World} {lo : Nat} {e : TypeId} {size n c : Nat} {A : Option Addr} {xs : List Value} (h : w.ownsRow lo e size (.slice A n c) n xs) : n ≤ c := by
  rcases h.2 with ⟨h1, h2⟩ | ⟨g, cap, cur, hv, _, _, hnc, _⟩
  · omega
  · obtain ⟨_, _, rfl⟩ : A = some ⟨g, 0, none⟩ ∧ n = n ∧ c = cap := by simpa using hv
    exact hnc
theorem CellsB.own {w : World} {lo hi : Nat} {e : TypeId} {size n c : Nat} {A : Option Addr} {xs : List Value} (h : w.ownsRow lo e size (.slice A n c) n xs) (hu : Under hi A) : CellsB hi w A xs := fun i u hi => by
  obtain ⟨ad, h1, h2⟩ := Cells.of_own h i u hi
  exact ⟨ad, h1, hu _ h1, h2⟩

/-! ### A slice of strings -/
def RdS (B : Nat) (w : World) (A : Option Addr) (c : Nat) (ss : List ByteArray) : Prop := ss.length ≤ c ∧ CellsB B w A (strs ss) ∧ Fit ss
def OwS (lo hi : Nat) (w : World) (A : Option Addr) (c : Nat) (ss : List ByteArray) : Prop := w.ownsRow lo 9 1 (.slice A ss.length c) ss.length (strs ss) ∧ Under hi A ∧ Fit ss
section
variable {B B' lo hi lo' hi' : Nat} {w w' : World} {A : Option Addr} {c : Nat} {ss : List ByteArray}
theorem RdS.below (h : RdS B w A c ss) (hb : Below B' w w') (hB : B ≤ B') : RdS B w' A c ss := ⟨h.1, h.2.1.below hb hB, h.2.2⟩
theorem RdS.cells (h : RdS B w A c ss) : Cells w A (strs ss) := h.2.1.cells
theorem OwS.rd (h : OwS lo hi w A c ss) : RdS hi w A c ss := ⟨own_cap h.1, CellsB.own h.1 h.2.1, h.2.2⟩
theorem OwS.below (h : OwS lo hi w A c ss) (hb : Below B w w') (hB : hi ≤ B) : OwS lo hi w' A c ss := ⟨own_under h.1 h.2.1 hb hB, h.2⟩
theorem OwS.only (h : OwS lo hi w A c ss) (ho : Only lo' hi' w w') (hd : hi ≤ lo' ∨ hi' ≤ lo) : OwS lo hi w' A c ss := ⟨own_only h.1 h.2.1 ho hd, h.2⟩
theorem OwS.mk (h : w.ownsRow lo 9 1 (.slice A ss.length c) ss.length (strs ss)) (hf : Fit ss) : OwS lo w.heap.size w A c ss := ⟨h, Under.own h, hf⟩
end
/-- An argument of which the sizes are not known yet. -/
def RdS0 (B : Nat) (w : World) (A : Option Addr) (c : Nat) (ss : List ByteArray) : Prop := ss.length ≤ c ∧ CellsB B w A (strs ss) ∧ Fit0 ss
theorem RdS0.below {B B' : Nat} {w w' : World} {A : Option Addr} {c : Nat} {ss : List ByteArray} (h : RdS0 B w A c ss) (hb : Below B' w w') (hB : B ≤ B') : RdS0 B w' A c ss := ⟨h.1, h.2.1.below hb hB, h.2.2⟩
theorem RdS0.up {B : Nat} {w : World} {A : Option Addr} {c : Nat} {ss : List ByteArray} (h : RdS0 B w A c ss) (hf : Fit ss) : RdS B w A c ss := ⟨h.1, h.2.1, hf⟩
theorem fitS_of {ss : List ByteArray} {left : Int} (h : ¬ szF ss left < 0) (hl : left ≤ 1048576) (h0 : Fit0 ss) : Fit ss ∧ 0 ≤ szF ss left ∧ szF ss left ≤ 1048576 := by
  obtain ⟨h1, h2⟩ := szF_ok (Int.not_lt.1 h)
  exact ⟨⟨by omega, h0.2⟩, by omega, by omega⟩
/-! ### A boxed struct -/
def BoxL (B : Nat) (w : World) (b : Nat) (vs : List Value) : Prop := b < B ∧ ∀ (i : Nat) (v : Value), vs[i]? = some v → w.cell? ⟨b, i, none⟩ = some v
theorem BoxL.below {B B' : Nat} {w w' : World} {b : Nat} {vs : List Value} (h : BoxL B w b vs) (hb : Below B' w w') (hB : B ≤ B') : BoxL B w' b vs :=
  ⟨h.1, fun i v hi => (hb.cell (p := ⟨b, i, none⟩) (Nat.lt_of_lt_of_le h.1 hB)).trans (h.2 i v hi)⟩
theorem BoxL.new (w : World) (vs : Array Value) (t : TypeId) : BoxL (w.heap.size + 1) (w.alloc (.cells vs t)) w.heap.size vs.toList :=
  ⟨Nat.lt_succ_self _, fun i v hi => by rw [cell_of_row _ _ i vs t (0, 0) (heap_alloc_new w _)]; simpa using hi⟩
theorem BoxL.only {B lo hi : Nat} {w w' : World} {b : Nat} {vs : List Value} (h : BoxL B w b vs) (ho : Only lo hi w w') (hb : hi ≤ b) (hw : b < w.heap.size) : BoxL B w' b vs :=
  ⟨h.1, fun i v hi => (World.cell?_of_block (ho.block b hw (.inr hb))).trans (h.2 i v hi)⟩
theorem BoxL.mono {B B' : Nat} {w : World} {b : Nat} {vs : List Value} (h : BoxL B w b vs) (hB : B ≤ B') : BoxL B' w b vs := ⟨Nat.lt_of_lt_of_le h.1 hB, h.2⟩

/-! ### The laws' helpers, in these words -/
def ToS (w : World) (ss : List ByteArray) (e : Ending) (w' : World) : Prop := ∃ (A : Option Addr) (c : Nat), e = .returned (.slice A ss.length c) ∧ OwS w.heap.size w'.heap.size w' A c ss ∧ Below w.heap.size w w'
end Go.Proofs.YtfncfaamdedmjaaDoor
